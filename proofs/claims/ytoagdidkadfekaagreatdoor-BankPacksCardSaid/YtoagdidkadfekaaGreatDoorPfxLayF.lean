/- LayF. Conditions: as each theorem states. -/
import Derived.Test.YtoagdidkadfekaaGreatDoorPfxLayS

namespace Go.Proofs.YtoagdidkadfekaaGreatDoor
open Go.RowKit Go.Lib

theorem inf_rowB : (Tryz.prog.info? 24).map (fun i => (i.zero, i.size, i.bytes)) = some (some (.slice none 0 0), 1, 24) := by kernel_rfl
theorem inf_rowF : (Tryz.prog.info? 96).map (fun i => (i.zero, i.size, i.bytes)) = some (some (.slice none 0 0), 1, 24) := by kernel_rfl
/-- rows of frames, one for each channel so far -/
def AllV (w : World) (lo hi : Nat) (no : Option Nat) (size : Nat) (rows : List (List Int)) (vs : List Value) : Prop :=
  ∀ (j : Nat) v, vs[j]? = some v → ∃ d a k M, rows[j]? = some d ∧ v = .slice a (List.length M) k ∧ M.map Prod.snd = framesZ d size ∧ List.length M ≤ k ∧ k ≤ 9223372036854775807 ∧ M ≠ [] ∧ FrIn w lo hi no a M
theorem AllV.mid {w w' : World} {lo hi : Nat} {no : Option Nat} {size : Nat} {rows : List (List Int)} {vs : List Value} (h : AllV w lo hi no size rows vs) (hm : MidW lo hi w w') : AllV w' lo hi no size rows vs := fun j v hv => by
  obtain ⟨d, a, k, M, h1, h2, h3, h4, h5, h6, h7⟩ := h j v hv
  exact ⟨d, a, k, M, h1, h2, h3, h4, h5, h6, h7.mid hm⟩
theorem AllV.later {w w' : World} {lo : Nat} {no : Option Nat} {size : Nat} {rows : List (List Int)} {vs : List Value} (h : AllV w lo w.heap.size no size rows vs) (hb : Below w.heap.size w w') : AllV w' lo w'.heap.size no size rows vs := fun j v hv => by
  obtain ⟨d, a, k, M, h1, h2, h3, h4, h5, h6, h7⟩ := h j v hv
  exact ⟨d, a, k, M, h1, h2, h3, h4, h5, h6, h7.later hb⟩
theorem AllV.push {w w' : World} {lo : Nat} {no no' : Option Nat} {size : Nat} {rows : List (List Int)} {vs : List Value} (h : AllV w lo w.heap.size no size rows vs) {d : List Int} {a : Option Addr} {k : Nat} {M : List (FrH × FrameV)} (hd : rows[vs.length]? = some d) (h3 : M.map Prod.snd = framesZ d size)
    (h4 : List.length M ≤ k) (h5 : k ≤ 9223372036854775807) (h6 : M ≠ []) (h7 : FrIn w lo w.heap.size no a M) (hg : w.grownBy w' no) (hn : no' = no ∨ no' = some w.heap.size) : AllV w' lo w'.heap.size no' size rows (vs ++ [.slice a (List.length M) k]) := fun j v hv => by
  by_cases hj : j < vs.length
  · rw [List.getElem?_append_left hj] at hv
    obtain ⟨d', a', k', M', g1, g2, g3, g4, g5, g6, g7⟩ := h j v hv
    exact ⟨d', a', k', M', g1, g2, g3, g4, g5, g6, g7.grown hg hn (g7.lt.1 g6) g7.lt.2⟩
  · have hj2 : j = vs.length := by
      have := (List.getElem?_eq_some_iff.1 hv).1
      simp at this
      omega
    subst hj2
    rw [List.getElem?_append_right (Nat.le_refl _), Nat.sub_self] at hv
    injection hv with hv
    subst hv
    exact ⟨d, a, k, M, hd, rfl, h3, h4, h5, h6, h7.grown hg hn (h7.lt.1 h6) h7.lt.2⟩
/-- what law 15's frames leaves -/
def FrQ (w : World) (size : Nat) (SS : List SampV) (e : Ending) (w' : World) : Prop :=
  ∃ Ad cd Af cf, e = .returned (.tuple #[.slice Ad SS.length cd, .slice Af (frTo size SS SS.length).length cf]) ∧ Row w' w'.heap.size Ad (metaCells (SS.map metaOf)) ∧ BRows w' w'.heap.size Af (frTo size SS SS.length) ∧ Below w.heap.size w w'
set_option maxRecDepth 100000 in
set_option maxHeartbeats 16000000 in
theorem lframes_any (size : Nat) (L : List (HSamp × SampV)) (A : Option Addr) (cap : Nat) (SS : List SampV) (w : World) (h1 : 24 ≤ size) (h2 : size ≤ 96) (hSS : L.map (·.2) = SS) (hs : SampsAt w w.heap.size A L) (hfine : ∀ s ∈ SS, Fine s) (hpos : ∀ s ∈ SS, ∀ r ∈ s.rows, 1 ≤ r.length) (hn8 : L.length ≤ 8) :
    Calls Tryz.prog 13 #[.int .i64 size, .slice A L.length cap] w (FrQ w size SS) := by
  obtain ⟨i0, hi, ⟨z0, hz0, hz0s⟩, hi1, hi2⟩ := meta_info
  obtain ⟨iF, hiF, ⟨zF, hzF, hzFs⟩, hiF1, hiF2⟩ := frames_info
  obtain ⟨iB, hiB, hzB0, hzB1, hzB2⟩ := info_parts inf_rowB
  obtain ⟨iR, hiR, hzR0, hzR1, hzR2⟩ := info_parts inf_rowF
  have HMf := Lib.hid (show (Tryz.prog.info? 49).map (·.size) = some 9 by kernel_rfl)
  have hsl : SS.length = L.length := by rw [← hSS, List.length_map]
  have HTk := Lib.hid (fun (k : Nat) (s : SampV) (h : SS[k]? = some s) => (show (SS.map metaOf).take (k + 1) = (SS.map metaOf).take k ++ [metaOf s] from by
    have hx : (SS.map metaOf)[k]? = some (metaOf s) := by rw [List.getElem?_map, h]; rfl
    obtain ⟨hk, he⟩ := List.getElem?_eq_some_iff.1 hx
    rw [List.take_succ_eq_append_getElem hk, he]))
  have HFt := Lib.hid (fun (k : Nat) (s : SampV) (h : SS[k]? = some s) => frTo_succ (size := size) h)
  obtain ⟨n, hn⟩ : ∃ n, L.length = n := ⟨_, rfl⟩
  have HTn := Lib.hid (show (SS.map metaOf).take n = SS.map metaOf from List.take_of_length_le (by rw [List.length_map, hsl, hn]; exact Nat.le_refl _))
  have HM := Lib.hid (fun (i : Nat) (p : HSamp × SampV) (h : L[i]? = some p) => (show SS[i]? = some p.2 from by rw [← hSS, List.getElem?_map, h]; rfl))
  have HMl := Lib.hid hn
  have Hs := Lib.hid hs
  have Hfine := Lib.hid (fun (k : Nat) (s : SampV) (h : SS[k]? = some s) => hfine s (List.mem_of_getElem? h))
  have Hpos := Lib.hid (fun (k : Nat) (s : SampV) (h : SS[k]? = some s) => hpos s (List.mem_of_getElem? h))
  rw [hn] at hn8 ⊢
  have Hsl := Lib.hid (hsl.trans hn)
  have HNew := Lib.hid (fun W => codeNew_any (size : Int) W (by omega) (by omega))
  have HF := Lib.hid (fun (gc : Nat) (d : List Int) B k W (hg : CoderAt W gc size) (h : GoodR d) (r : Row W W.heap.size B (d.map (.int .i64))) => FramesN_any gc size d B k W hg (by omega) (by omega) (by have := h.1; omega) r h.2)
  have HBy := Lib.hid (fun (gc : Nat) (p : FrH × FrameV) A W (hg : CoderAt W gc size) (hA : FramesAt W A [p]) (hR : RightF p.2 ∧ bitsZ p.2 ≤ 8 * (size : Int)) => (show Calls Tryz.prog 45 #[.pointer (some ⟨gc, 0, none⟩), .slice A 1 1] W (fun e w' => ∃ At ct, e = .returned (.tuple #[.slice At size ct, .int .i64 0]) ∧ size ≤ ct ∧ ct ≤ 9223372036854775807 ∧ Row w' w'.heap.size At (u8s (frameBytes p.2 size)) ∧ Below W.heap.size W w' ∧ ∀ ad, At = some ad → W.heap.size ≤ ad.block) from by
    refine (CBytes_fresh gc size [p] A 1 W hg (by omega) (by simp) hA (fun q hq => by rw [List.mem_singleton] at hq; rw [hq]; exact hR)).mono ?_
    rintro e w' ⟨At, ct, he, hc1, hc2, hr, hbw, hfr⟩
    have eb : bytesF size ([p].map Prod.snd) = frameBytes p.2 size := by simp [bytesF]
    rw [eb] at he hr hc1
    rw [frameBytes_len hR.1 hR.2] at he hc1
    exact ⟨At, ct, he, hc1, hc2, hr, hbw, hfr⟩))
  have HFz := Lib.hid (fun (d : List Int) (h : GoodR d) => framesZ_right h.2 (size := (size : Int)) (by omega) (by omega))
  have HFb := Lib.hid (frTo_bd (size := size) hfine)
  obtain ⟨LM, hLM⟩ : ∃ LM, SS.map metaOf = LM := ⟨_, rfl⟩
  rw [hLM] at HTk HTn
  have HLM := Lib.hid hLM
  clear hLM
  clear hs hSS hfine hsl hn hpos
  go_enter Tryz.func13, Tryz.ntmps13
  go_wp2_with (go_at_call 38; fail)
  refine (HNew.out _).mono ?_
  rintro e w1 ⟨gc, rfl, hgc, hC1, hb1⟩
  have B1 := Lib.hid hb1
  have HC1 := Lib.hid hC1
  clear hb1 hC1 HNew hgc
  go_wp2_with fail
  go_loopw [8, 9, 10] (fun dv ov i wr => ∃ (m : Nat) (Ad : Option Addr) (cd : Nat) (Ao : Option Addr) (co : Nat) (vs : List Value), m ≤ n ∧ i = .int .i64 m ∧ dv = .slice Ad m cd ∧ ov = .slice Ao (frTo size SS m).length co ∧ wr.ownsRow w1.heap.size 49 9 (.slice Ad m cd) m (metaCells (LM.take m)) ∧ OutV wr w1.heap.size (.slice Ad m cd) Ao co (frTo size SS m) vs ∧ Below w1.heap.size w1 wr) (fun _ _ i _ => n - (intOf i).toNat)
  case atStart => exact ⟨0, none, 0, none, 0, [], by omega, rfl, rfl, rfl, World.ownsRow_nil _ _ _ _, OutV.nil _ _ _, Below.refl _ _⟩
  case round =>
    obtain ⟨m, Ad, cd, Ao, co, vs, hm, rfl, rfl, rfl, hown, hout, hbel⟩ := hrel
    have Hown := Lib.hid hown
    have Hout := Lib.hid hout
    have Hbel := Lib.hid hbel
    clear hown hout hbel
    by_cases hlt : m < n
    · have t1 : (m : Int) < (n : Int) := by omega
      have t2 : (0 : Int) ≤ (m : Int) := by omega
      obtain ⟨p, hp⟩ := list_get (k := m) HMl.out hlt
      have hp2 := HM.out m p hp
      obtain ⟨b, off, rfl, hb, hc⟩ := samp_at Hs.out.row hp
      have hft := Hs.out.fits p (List.mem_of_getElem? hp)
      obtain ⟨⟨nm, rate, lp, f, t, a, len, cp⟩, s⟩ := p
      obtain ⟨⟨e1, e2, e3, e4, e5, e6⟩, _, _, us, h4, h5⟩ := hft
      simp only [HSamp.cells] at hc h4 h5 e1 e2 e3 e4 e5 e6 hp2
      have HBw := Lib.hid (fun W (hW : Below w1.heap.size w1 W) => bnext B1.out hW)
      have HSc := Lib.hid (fun W (hW : Below w1.heap.size w1 W) (j : Nat) v (hv : ([.string nm, .int .i64 rate, .bool lp, .int .i64 f, .int .i64 t, .slice a len cp] : List Value)[j]? = some v) => ((bnext B1.out hW).cell (p := ⟨b, off + m * 6 + j, none⟩) hb).trans (hc j v hv))
      have hw0 : Below w.heap.size w wr := bnext B1.out Hbel.out
      have c0 := (hw0.cell (p := ⟨b, off + m * 6 + 0, none⟩) hb).trans (hc 0 _ rfl)
      have c1 := (hw0.cell (p := ⟨b, off + m * 6 + 1, none⟩) hb).trans (hc 1 _ rfl)
      have c2 := (hw0.cell (p := ⟨b, off + m * 6 + 2, none⟩) hb).trans (hc 2 _ rfl)
      have c3 := (hw0.cell (p := ⟨b, off + m * 6 + 3, none⟩) hb).trans (hc 3 _ rfl)
      have c4 := (hw0.cell (p := ⟨b, off + m * 6 + 4, none⟩) hb).trans (hc 4 _ rfl)
      have c5 := (hw0.cell (p := ⟨b, off + m * 6 + 5, none⟩) hb).trans (hc 5 _ rfl)
      rw [Nat.add_zero] at c0
      have HMt := Lib.hid (show Calls Tryz.prog 32 #[.agg #[.string nm, .int .i64 rate, .bool lp, .int .i64 f, .int .i64 t, .slice a len cp]] wr (fun e w' => e = .returned (.agg (metaOf s).cells.toArray) ∧ Below wr.heap.size wr w') from by
        have h4' : Row w w.heap.size a us := h4
        have h5' : RowsAt w w.heap.size us s.rows := h5
        have := Meta_any nm rate lp f t a cp us s.rows wr len e6.symm (h4'.later hw0) (h5'.later hw0)
        rw [e1, e2, e3, e4, e5, e6] at this ⊢
        exact this)
      have HRow := Lib.hid (fun (k : Nat) (d : List Int) (hd : s.rows[k]? = some d) => (show ∃ b off a' c', a = some ⟨b, off, none⟩ ∧ b < w.heap.size ∧ w.cell? ⟨b, off + k, none⟩ = some (.slice a' d.length c') ∧ d.length ≤ c' ∧ c' ≤ 9223372036854775807 ∧ Row w w.heap.size a' (d.map (.int .i64)) from first_row h4 h5 hd))
      have HT := Lib.hid (HTk.out m s hp2)
      have HFm := Lib.hid (HFt.out m s hp2)
      have Hfs := Lib.hid (Hfine.out m s hp2)
      have Hps := Lib.hid (Hpos.out m s hp2)
      have HMs := Lib.hid (show metaCells (LM.take (m + 1)) = metaCells (LM.take m) ++ (metaOf s).cells by rw [HT.out, metaCells_snoc])
      have Hmo := Lib.hid (meta_one (metaOf s))
      have Hma := Lib.hid (show (metaOf s).cells.toArray.all (·.oneCell') = true by
        rw [Array.all_eq_true_iff_forall_mem]
        intro v hv
        exact Hmo.out v (by simpa using hv))
      have hm9 : (metaOf s).cells.length = 9 := rfl
      have hm1 : (metaOf s).cells[1]? = some (.int .i64 (len0 s.rows : Nat)) := rfl
      obtain ⟨Ln, hLn⟩ : ∃ Ln, len0 s.rows = Ln := ⟨_, rfl⟩
      rw [hLn] at hm1 HFm
      have HLn := Lib.hid hLn
      have hcz := countZ_N Ln
      obtain ⟨cnt, hcnt⟩ : ∃ cnt, countN Ln = cnt := ⟨_, rfl⟩
      rw [hcnt] at hcz HFm
      have hLb : Ln ≤ 150 := by
        rw [← hLn]
        obtain ⟨r, hr, e⟩ := len0_mem Hfs.out.pos
        rw [← e]
        exact (Hfs.out.good.2 r hr).1
      have hquo := quo_any (n := (Ln : Int)) (by omega)
      rw [hcz] at hquo
      have hcb : cnt ≤ 100 := by rw [← hcnt]; unfold countN; omega
      have hqw : IntKind.i64.wrap (cnt : Int) = (cnt : Int) := IntWalk.i64_in _ (by omega)
      have Hcnt := Lib.hid hcnt
      have HRl := Lib.hid e6
      have hl2 : len ≤ 2 := by have := Hfs.out.good.1; rw [← HRl.out] at this; exact this
      rw [← e6] at HFm
      generalize (metaOf s).cells = mc at *
      have Hm9 := Lib.hid hm9
      have Hm1 := Lib.hid hm1
      have Hz9 := Lib.hid (show mc.toArray.size = 9 by rw [List.size_toArray, hm9])
      have HFz9 := Lib.hid (show (Tryz.prog.info? 49).map (·.size) = some mc.toArray.size by rw [Hz9.out]; exact HMf.out)
      clear hc hp h4 h5 e1 e2 e3 e4 e5 e6 hp2 hm9 hm1 hLn hcnt hw0 hcz
      go_wp2_with (go_at_call 32; fail)
      refine HMt.out.mono ?_
      rintro e w2 ⟨rfl, hb2⟩
      have F2 := Lib.hid hb2
      clear c0 c1 c2 c3 c4 c5 hb2 HMt
      obtain ⟨w3, hw3⟩ : ∃ w3, w2.alloc (.cells mc.toArray 49) = w3 := ⟨_, rfl⟩
      have K3 := Lib.hid (show Blk w3 w2.heap.size 49 mc by rw [← hw3]; exact Blk.new w2 _ mc)
      have F3 := Lib.hid (show Below wr.heap.size wr w3 by rw [← hw3]; exact bnext F2.out (bnew w2 _))
      have O3 := Lib.hid (own_below Hown.out F3.out)
      have Q3 := Lib.hid (Hout.out.below F3.out)
      have hz3 := F3.out.size
      have hz2 := F2.out.size
      have hzr := Hbel.out.size
      have hlt2 : w2.heap.size < w3.heap.size := K3.out.lt
      have Hge := Lib.hid (own_block_ge Hown.out)
      have Hdl := Lib.hid (own_row_lt Hown.out)
      go_wp2_with (first | (refine wpList_store_row_w rfl 49 (.tmp 11) (.tmp 41) rfl w2.heap.size rfl _ _ mc.toArray rfl (heap_alloc_new w2 _) HFz9.out (by rw [Hz9.out]; rfl) Hma.out ?_; rw [World.setRow_alloc_new, hw3]) | (refine wpList_load_row_w rfl 49 (.tmp 11) rfl w2.heap.size rfl _ mc.toArray _ _ K3.out Tryz.underlying49 rfl HFz9.out ?_) | (refine wpList_build_one rfl 30 49 (.tmp 43) rfl i0 z0 9 Tryz.underlying30 hi hz0 hi1 (by omega) (by omega) mc.toArray rfl Hz9.out ?_) | (at_builtin; refine wpList_app _ rfl (.tmp 42) (.tmp 44) 30 rfl w1.heap.size 49 i0 z0 9 80 Tryz.underlying30 hi hz0 hi1 hi2 hz0s (by omega) (.slice Ad m cd) m (metaCells (LM.take m)) rfl (O3.out.alloc _) (w3.heap.size + 1) (some ⟨w3.heap.size, 0, none⟩) 1 1 mc rfl (by rw [Hm9.out]) (Row.new w3 _ mc) Hmo.out (by omega) (by omega) (by simp; omega) ?_; intro A2 c2 w5 hown5 hgr5 hat5 hcc5))
      rw [← HMs.out] at hown5
      have O5 := Lib.hid hown5
      have Q5 := Lib.hid ((Q3.out.below (bnew w3 (.cells mc.toArray 49))).dir hgr5 hat5)
      have B5 := Lib.hid (show Below w1.heap.size w1 w5 from ((bnext Hbel.out F3.out).alloc (by omega) (.cells mc.toArray 49)).grown hgr5 (by simp; omega) (fun g h => Hge.out g h))
      have K5 := Lib.hid ((K3.out.alloc (.cells mc.toArray 49)).grown hgr5 (fun e => by have := Hdl.out _ e.symm; omega))
      have hl5 := own_row_lt O5.out
      clear hown5 hgr5 hat5 hcc5 hw3 O3 Q3 K3 F3 F2 Hown Hout Hge Hdl
      generalize w2.heap.size = gm at *
      go_wp2_with fail
      go_loopw [12, 13] (fun av i wr => ∃ (k : Nat) (Aa : Option Addr) (ca : Nat) (ws : List Value), k ≤ len ∧ i = .int .i64 k ∧ av = .slice Aa k ca ∧ ws.length = k ∧ wr.ownsRow w5.heap.size 96 1 (.slice Aa k ca) k ws ∧ AllV wr w5.heap.size wr.heap.size (Value.slice Aa k ca).ownBlock size s.rows ws ∧ Below w5.heap.size w5 wr) (fun _ i _ => len - (intOf i).toNat)
      case atStart => exact ⟨0, none, 0, [], by omega, rfl, rfl, rfl, World.ownsRow_nil _ _ _ _, fun j v hv => by simp at hv, Below.refl _ _⟩
      case round =>
        obtain ⟨k, Aa, ca, ws, hk, rfl, rfl, hwl, hown, hall, hbel⟩ := hrel
        have Hwl := Lib.hid hwl
        have Hown := Lib.hid hown
        have Hall := Lib.hid hall
        have Hbl := Lib.hid hbel
        have B6 := Lib.hid (bnext B5.out hbel)
        clear hwl hown hall hbel
        have c5 := HSc.out wr B6.out 5 _ rfl
        by_cases hkl : k < len
        · have t3 : (k : Int) < (len : Int) := by omega
          have t4 : (0 : Int) ≤ (k : Int) := by omega
          obtain ⟨d, hd⟩ := list_get (k := k) HRl.out.symm hkl
          have hdm := List.mem_of_getElem? hd
          have Hgd := Lib.hid (Hfs.out.good.2 d hdm)
          have Hd1 := Lib.hid (Hps.out d hdm)
          have Hd := Lib.hid hd
          obtain ⟨b5, o5, a5, k5, rfl, hb5, hc5, _, _, hr5⟩ := HRow.out k d hd
          have z5 := ((bnext B1.out B6.out).cell (p := ⟨b5, o5 + k, none⟩) hb5).trans hc5
          have HFc := Lib.hid (HF.out gc d a5 k5 wr (HC1.out.later B6.out) Hgd.out (hr5.later (bnext B1.out B6.out)))
          clear hd hdm hc5 hr5 hb5
          go_wp2_with (go_at_call 44; fail)
          refine HFc.out.mono ?_
          rintro e w6 ⟨Af, cf, M, rfl, hM, hcf1, hcf2, hfa, hb6, hn1, hn2⟩
          have hMn : M ≠ [] := fun e => by
            rw [e] at hM
            have := congrArg List.length hM
            rw [framesZ_len] at this
            have h1 := Hd1.out
            simp [countN] at this
            omega
          have I6 := Lib.hid (FrIn.new hfa hn1 hn2 (lo := w5.heap.size) Hbl.out.size (own_row_lt Hown.out))
          have A6 := Lib.hid (Hall.out.later hb6)
          have O6 := Lib.hid (own_below Hown.out hb6)
          have E6 := Lib.hid (bnext Hbl.out hb6)
          have HMp := Lib.hid hM
          have Hge := Lib.hid (own_block_ge Hown.out)
          have hz6 := E6.out.size
          have h1c : (Value.slice Af (List.length M) cf).oneCell' = true := rfl
          obtain ⟨nM, hnM⟩ : ∃ nM, List.length M = nM := ⟨_, rfl⟩
          have HnM := Lib.hid hnM
          rw [hnM] at hcf1 h1c ⊢
          clear hM hfa hb6 hn1 hn2 z5 c5 hnM
          go_wp2_with (at_builtin; refine wpList_app _ rfl (.tmp 69) (.tmp 71) 95 rfl w5.heap.size 96 iR (.slice none 0 0) 1 24 Tryz.underlying95 hiR hzR0 hzR1 hzR2 rfl (by omega) (.slice Aa k ca) k ws rfl (O6.out.alloc _) (w6.heap.size + 1) (some ⟨w6.heap.size, 0, none⟩) 1 1 [.slice Af nM cf] rfl rfl (Row.new w6 _ [.slice Af nM cf]) (fun u hu => by rw [List.mem_singleton] at hu; rw [hu]; exact h1c) (by omega) (by omega) (by simp; omega) ?_; intro A7 c7 w7 hown7 hgr7 hat7 hcc7)
          go_roundw
          case rel =>
            have hb7 : Below w5.heap.size w5 w7 := (E6.out.alloc (by omega) _).grown hgr7 (by simp; omega) (fun g h => Hge.out g h)
            have ha7 := (A6.out.later (bnew w6 (.cells #[.slice Af nM cf] 96))).push (d := d) (a := Af) (k := cf) (M := M) (by rw [Hwl.out]; exact Hd.out) HMp.out (by rw [HnM.out]; exact hcf1) hcf2 hMn (I6.out.later (bnew w6 (.cells #[.slice Af nM cf] 96))) hgr7 hat7
            rw [HnM.out] at ha7
            exact ⟨k + 1, A7, c7, ws ++ [.slice Af nM cf], by omega, by go_num, rfl, by rw [List.length_append, Hwl.out]; rfl, hown7, ha7, hb7⟩
          case measure => first | (simp [intOf]; done) | (simp [intOf]; omega)
        · have hke : len = k := by omega
          subst hke
          have t3 : ¬ ((len : Int) < (len : Int)) := by omega
          obtain ⟨wb, rfl⟩ : ∃ wb, wb = wr := ⟨_, rfl⟩
          have RA := Lib.hid (Row.of_own Hown.out)
          have Hag := Lib.hid (own_block_ge Hown.out)
          have ST := Lib.hid (show FrSt wb w1.heap.size w5.heap.size wb.heap.size gm wb (.slice A2 (m + 1) c2) (m + 1) (metaCells (LM.take (m + 1))) mc Ao co (frTo size SS m ++ frS size s (0 * len)) vs from by
            rw [Nat.zero_mul, show frS size s 0 = [] from rfl, List.append_nil]
            exact ⟨own_below O5.out Hbl.out, Q5.out.below Hbl.out, fun g e => .inl (own_row_lt Q5.out.own g e), K5.out.below Hbl.out K5.out.lt, MidW.refl _ _ _⟩)
          have HST0 := Lib.hid (show (frTo size SS m ++ frS size s (0 * len)).length = (frTo size SS m).length by rw [Nat.zero_mul, show frS size s 0 = [] from rfl, List.append_nil])
          go_wp2_with fail
          clear c5 O5 Q5 K5 Hown
          go_loopw [9, 16] (fun ov i wr => ∃ (q : Nat) (Ax : Option Addr) (cx : Nat) (vx : List Value), q ≤ cnt ∧ i = .int .i64 q ∧ ov = .slice Ax (frTo size SS m ++ frS size s (q * len)).length cx ∧ FrSt wr w1.heap.size w5.heap.size wb.heap.size gm wb (.slice A2 (m + 1) c2) (m + 1) (metaCells (LM.take (m + 1))) mc Ax cx (frTo size SS m ++ frS size s (q * len)) vx ∧ Below w1.heap.size w1 wr) (fun _ i _ => cnt - (intOf i).toNat)
          case atStart => exact ⟨0, Ao, co, vs, by omega, rfl, by rw [HST0.out], ST.out, B6.out⟩
          case round =>
            obtain ⟨q, Ax, cx, vx, hq, rfl, rfl, hst, hbel⟩ := hrel
            have Hst := Lib.hid hst
            have Hbx := Lib.hid hbel
            have x1 := (blk_cells hst.blk 1).trans Hm1.out
            clear hst hbel
            by_cases hqc : q < cnt
            · have t5 : (q : Int) < (cnt : Int) := by omega
              have t6 : (0 : Int) ≤ (q : Int) := by omega
              go_wp2_with fail
              clear x1
              go_loopw [9, 17] (fun ov i wr => ∃ (k : Nat) (Ay : Option Addr) (cy : Nat) (vy : List Value), k ≤ len ∧ i = .int .i64 k ∧ ov = .slice Ay (frTo size SS m ++ frS size s (q * len + k)).length cy ∧ FrSt wr w1.heap.size w5.heap.size wb.heap.size gm wb (.slice A2 (m + 1) c2) (m + 1) (metaCells (LM.take (m + 1))) mc Ay cy (frTo size SS m ++ frS size s (q * len + k)) vy ∧ Below w1.heap.size w1 wr) (fun _ i _ => len - (intOf i).toNat)
              case atStart => exact ⟨0, Ax, cx, vx, by omega, rfl, rfl, Hst.out, Hbx.out⟩
              case round =>
                obtain ⟨k, Ay, cy, vy, hk, rfl, rfl, hst, hbel⟩ := hrel
                have Hs4 := Lib.hid hst
                have Hb4 := Lib.hid hbel
                clear hst hbel
                by_cases hkl : k < len
                · have t7 : (k : Int) < (len : Int) := by omega
                  have t8 : (0 : Int) ≤ (k : Int) := by omega
                  obtain ⟨v, hv⟩ := list_get (k := k) Hwl.out hkl
                  obtain ⟨d, a6, k6, M, hd, rfl, hM, hM1, hM2, hM3, hI⟩ := Hall.out k v hv
                  have RA4 := RA.out.midW Hs4.out.mid (fun ad ha => Hag.out ad.block (by subst ha; rfl))
                  obtain ⟨ba, oa, rfl, hba, hca⟩ := RA4 k _ hv
                  have hdm := List.mem_of_getElem? hd
                  have hdl := Hfs.out.same d hdm
                  have hMl : M.length = cnt := by
                    have := congrArg List.length hM
                    rw [List.length_map, framesZ_len, hdl, HLn.out, Hcnt.out] at this
                    exact this
                  rw [hMl] at hca
                  obtain ⟨pf, hpf⟩ := list_get (k := q) hMl hqc
                  have hpx : (framesZ d size)[q]? = some pf.2 := by rw [← hM, List.getElem?_map, hpf]; rfl
                  have HpR := Lib.hid (HFz.out d (Hfs.out.good.2 d hdm) pf.2 (List.mem_of_getElem? hpx))
                  have HfA := Lib.hid ((hI.mid Hs4.out.mid).at_ Hs4.out.mid.size)
                  have HpT := Lib.hid (HfA.out.tones pf (List.mem_of_getElem? hpf))
                  obtain ⟨bf, of_, rfl, hbf, hcell⟩ := frame_at HfA.out hpf
                  have FX := Lib.hid hcell
                  have hfl : (frC pf).length = 29 := frC_len HpR.out.1.len
                  have Hf1 := Lib.hid (show (frC pf).toArray.all (·.oneCell') = true by
                    rw [Array.all_eq_true_iff_forall_mem]
                    intro v hv
                    exact frC_one pf v (by simpa using hv))
                  have HFA := Lib.hid (show FramesAt (wr.alloc (.cells (frC pf).toArray 62)) (some ⟨wr.heap.size, 0, none⟩) [pf] from by
                    refine ⟨?_, fun q hq => by rw [List.mem_singleton] at hq; rw [hq]; exact HpR.out.1.len, fun q hq => by rw [List.mem_singleton] at hq; rw [hq]; exact HpT.out.later (bnew wr _)⟩
                    have h1 := Row.new wr 62 (frC pf)
                    rw [show framesC [pf] = frC pf by simp [framesC], World.size_alloc]
                    exact h1)
                  have HQ := Lib.hid (fun A W hg hA => HBy.out gc pf A W hg hA HpR.out)
                  have Hlb := Lib.hid (frameBytes_len HpR.out.1 HpR.out.2)
                  have HAt := Lib.hid (frAt_of (size := size) HRl.out.symm hkl hd hpx)
                  have HfS := Lib.hid (frS_succ size s (q * len + k))
                  have hnb : (frTo size SS m ++ frS size s (q * len + k)).length ≤ 1000 := by
                    have h1 := HFb.out m
                    have h2 := Nat.mul_le_mul (show q ≤ 100 by omega) hl2
                    rw [List.length_append, frS_len]
                    omega
                  rw [HAt.out] at HfS
                  generalize frC pf = fl at *
                  generalize pf.2 = x at *
                  have HFl := Lib.hid (show (Tryz.prog.info? 62).map (·.size) = some fl.length by rw [hfl]; exact inf_frame)
                  have Hfz := Lib.hid (show fl.toArray.size = 29 by rw [List.size_toArray, hfl])
                  have EV := Lib.hid (bnew wr (.cells fl.toArray 62))
                  have hsz4 := Hs4.out.mid.size
                  have hol := own_row_lt Hs4.out.out.own
                  have hdl2 := own_row_lt Hs4.out.dir
                  have Hol := Lib.hid hol
                  have Hdl2 := Lib.hid hdl2
                  clear hv hd hM hM1 hM2 hM3 hI RA4 hba hdm hdl hMl hpf hpx hbf hcell hfl HpT HfA HpR HAt hol hdl2
                  obtain ⟨NF, hNF⟩ : ∃ NF, (frTo size SS m ++ frS size s (q * len + k)).length = NF := ⟨_, rfl⟩
                  have HNF := Lib.hid hNF
                  rw [hNF] at Hol hnb ⊢
                  clear hNF
                  go_wp2_with (first | (refine wpList_load_part_w rfl 62 (.tmp 101) rfl bf (of_ + q * 29) rfl fl _ FX.out Tryz.underlying62 rfl HFl.out ?_) | (refine wpList_build_one rfl 96 62 (.tmp 102) rfl iF zF 29 Tryz.underlying96 hiF hzF hiF1 (by omega) (by omega) fl.toArray rfl Hfz.out ?_) | (go_at_call 45; fail))
                  refine (HQ.out _ _ (HC1.out.later (bnext Hb4.out EV.out)) HFA.out).mono ?_
                  rintro e w7 ⟨At, ct, rfl, hct1, hct2, hrt, hb7, hfr⟩
                  have E7 := Lib.hid (bnext EV.out hb7)
                  have S7 := Lib.hid (Hs4.out.below E7.out hsz4)
                  have B7 := Lib.hid (bnext Hb4.out E7.out)
                  have RT := Lib.hid hrt
                  have Hge := Lib.hid (own_block_ge S7.out.out.own)
                  have HO7 := Lib.hid S7.out.out.own
                  have hz7 := E7.out.size
                  have hzb := B7.out.size
                  have h1c : (Value.slice At size ct).oneCell' = true := rfl
                  have Hfr := Lib.hid (fun ad (h : At = some ad) => (show ad.block < w7.heap.size ∧ wr.heap.size ≤ ad.block from by
                    obtain ⟨b0, hb0⟩ := list_get (k := 0) Hlb.out (by omega)
                    obtain ⟨bt, ot, hAt, hbt, _⟩ := hrt 0 _ (u8s_get hb0)
                    have h2 := hfr ad h
                    rw [h] at hAt
                    injection hAt with hAt
                    rw [hAt] at h2 ⊢
                    simp at h2
                    simp only
                    omega))
                  rw [HNF.out] at HO7
                  clear hrt hb7 hfr HQ HFA FX EV
                  go_wp2_with (at_builtin; refine wpList_app _ rfl (.tmp 107) (.tmp 109) 31 rfl w1.heap.size 24 iB (.slice none 0 0) 1 24 Tryz.underlying31 hiB hzB0 hzB1 hzB2 rfl (by omega) (.slice Ay NF cy) NF vy rfl (HO7.out.alloc _) (w7.heap.size + 1) (some ⟨w7.heap.size, 0, none⟩) 1 1 [.slice At size ct] rfl rfl (Row.new w7 _ [.slice At size ct]) (fun u hu => by rw [List.mem_singleton] at hu; rw [hu]; exact h1c) (by omega) (by omega) (by simp; omega) ?_; intro A8 c8 w8 hown8 hgr8 hat8 hcc8)
                  go_roundw
                  case rel =>
                    have hb8 : Below w1.heap.size w1 w8 := (B7.out.alloc (by omega) _).grown hgr8 (by simp; omega) (fun g h => Hge.out g (by rw [HNF.out]; exact h))
                    have S7a := S7.out.below (bnew w7 (.cells #[.slice At size ct] 24)) (by have := S7.out.mid.size; exact this)
                    have hS8 := S7a.push (f := frameBytes x size) (a := At) (k := ct) (by rw [Hlb.out]; exact hct1) hct2 (by have := RT.out.later (bnew w7 (.cells #[.slice At size ct] 24)); exact this)
                      (fun ad h => by
                        have h1 := Hfr.out ad h
                        refine ⟨by simp; omega, fun e => ?_, fun e => ?_⟩
                        · rw [HNF.out] at e
                          have := Hol.out _ e
                          omega
                        · have := Hdl2.out _ e
                          omega) (A' := A8) (c' := c8) (by rw [HNF.out, Hlb.out]; exact hown8) (by rw [HNF.out]; exact hgr8) (by rw [HNF.out]; exact hat8) (by have := S7a.mid.size; exact this)
                    rw [Hlb.out, List.append_assoc, ← HfS.out] at hS8
                    have hnl : (frTo size SS m ++ frS size s (q * len + k + 1)).length = NF + 1 := by rw [HfS.out, ← List.append_assoc, List.length_append, HNF.out]; rfl
                    exact ⟨k + 1, A8, c8, _, by omega, by go_num, by rw [show q * len + (k + 1) = q * len + k + 1 from rfl, hnl], hS8, hb8⟩
                  case measure => first | (simp [intOf]; done) | (simp [intOf]; omega)
                · have hke : len = k := by omega
                  subst hke
                  have t7 : ¬ ((len : Int) < (len : Int)) := by omega
                  have HE := Lib.hid (show q * len + len = (q + 1) * len by rw [Nat.succ_mul])
                  go_wp2
                  go_roundw
                  case rel => exact ⟨q + 1, Ay, cy, vy, by omega, by go_num, by rw [← HE.out], by rw [← HE.out]; exact Hs4.out, Hb4.out⟩
                  case measure => first | (simp [intOf]; done) | (simp [intOf]; omega)
            · have hqe : cnt = q := by omega
              subst hqe
              have t5 : ¬ ((cnt : Int) < (cnt : Int)) := by omega
              go_wp2
              go_roundw
              case rel => exact ⟨m + 1, A2, c2, Ax, cx, vx, by omega, by go_num, rfl, by rw [HFm.out], Hst.out.dir, by rw [HFm.out]; exact Hst.out.out, Hbx.out⟩
              case measure => first | (simp [intOf]; done) | (simp [intOf]; omega)
    · have hmn : n = m := by omega
      subst hmn
      have t1 : ¬ ((n : Int) < (n : Int)) := by omega
      have hown := Hown.out
      rw [HTn.out] at hown
      have RD := Lib.hid (Row.of_own hown)
      have RB := Lib.hid Hout.out.rows
      have B9 := Lib.hid (bnext B1.out Hbel.out)
      clear hown
      go_wp2
      refine bodyPost_ret (results_tmp2 Tryz.results13 _ _ _) rfl ?_
      unfold FrQ
      rw [Hsl.out, HLM.out]
      exact ⟨Ad, cd, Ao, co, rfl, RD.out, RB.out, B9.out⟩
end Go.Proofs.YtoagdidkadfekaaGreatDoor
