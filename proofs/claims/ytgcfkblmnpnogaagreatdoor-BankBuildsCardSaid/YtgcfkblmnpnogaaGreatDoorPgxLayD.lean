/- LayD. Conditions: as each theorem states. -/
import Derived.Lib.ConvBytes
import Derived.Lib.SlBytesConst
import Derived.Test.YtgcfkblmnpnogaaGreatDoorPg44

namespace Go.Proofs.YtgcfkblmnpnogaaGreatDoor
open Go.RowKit Go.Lib

/-- lay, its result's length said by N -/
theorem llayN (bs xs : List Nat) (at_ N k : Nat) (A Ax : Option Addr) (cb cx : Nat) (w : World) (hN : bs.length = N) (hk : xs.length = k) (h0 : 0 < N) (hl : N ≤ 100000000) (ha : at_ + k ≤ N)
    (hr : Row w w.heap.size A (u8s bs)) (hrx : Row w w.heap.size Ax (u8s xs)) :
    Calls Tryz.prog 80 #[.slice A N cb, .int .i64 at_, .slice Ax k cx] w fun e w' => ∃ g c, e = .returned (.slice (some ⟨g, 0, none⟩) N c) ∧ N ≤ c ∧ Row w' w'.heap.size (some ⟨g, 0, none⟩) (u8s (putAt bs at_ xs)) ∧ Below w.heap.size w w' := by
  have := llay_any bs xs at_ A Ax cb cx w (by omega) (by omega) (by omega) hr hrx
  rw [hN, hk] at this
  refine this.mono ?_
  rintro e w' ⟨g, c, he, h1, _, _, h2, h3⟩
  rw [putAt_len (by omega), hN] at he h1
  exact ⟨g, c, he, h1, h2, h3⟩
/-- lay, its result as a call of bytes -/
theorem llayF (bs xs : List Nat) (at_ N k : Nat) (A Ax : Option Addr) (cb cx : Nat) (w : World) (hN : bs.length = N) (hk : xs.length = k) (h0 : 0 < N) (hl : N ≤ 100000000) (ha : at_ + k ≤ N)
    (hr : Row w w.heap.size A (u8s bs)) (hrx : Row w w.heap.size Ax (u8s xs)) :
    Calls Tryz.prog 80 #[.slice A N cb, .int .i64 at_, .slice Ax k cx] w (BytP w (putAt bs at_ xs)) := by
  have := llay_any bs xs at_ A Ax cb cx w (by omega) (by omega) (by omega) hr hrx
  rw [hN, hk] at this
  exact this
theorem lnumN (size v : Nat) (w : World) (h1 : 1 ≤ size) (h2 : size ≤ 4) (hv : v ≤ 1000000000000) :
    Calls Tryz.prog 81 #[.int .i64 size, .int .i64 v] w fun e w' => ∃ g c, e = .returned (.slice (some ⟨g, 0, none⟩) size c) ∧ Row w' w'.heap.size (some ⟨g, 0, none⟩) (u8s (numB size v)) ∧ Below w.heap.size w w' := by
  refine (lnum_any size v w h1 h2 hv).mono ?_
  rintro e w' ⟨g, c, he, _, _, _, h2, h3⟩
  rw [numB_len] at he
  exact ⟨g, c, he, h2, h3⟩
set_option maxRecDepth 100000 in
set_option maxHeartbeats 16000000 in
theorem limage_any (size : Nat) (D : List MetaV) (A : Option Addr) (capD : Nat) (FR : List (List Nat)) (Af : Option Addr) (capF : Nat) (w : World) (h1 : 24 ≤ size) (h2 : size ≤ 96) (hD : D.length ≤ 64) (hg : ∀ x ∈ D, GoodL x)
    (hr : Row w w.heap.size A (metaCells D)) (hf : BRows w w.heap.size Af FR) (hfl : FR.length ≤ 1000000) (hfs : ∀ f ∈ FR, f.length = size) (hN : atTo size D D.length ≤ 10000000) :
    Calls Tryz.prog 20 #[.int .i64 size, .slice A D.length capD, .slice Af FR.length capF] w (BytP w (lawZ size (mixTo size D D.length) FR (upZ (atTo size D D.length) 64).toNat)) := by
  obtain ⟨i0, hi, ⟨z0, hz0, hz0s⟩, hi1, hi2⟩ := meta_info
  obtain ⟨PM, hPM⟩ : ∃ PM, mixTo size D D.length = PM := ⟨_, rfl⟩
  have HPg := Lib.hid (fun m x (h : D[m]? = some x) => (show PM[m]? = some (plc size D m x) from by
    rw [← hPM, mixTo_get h, if_pos (List.getElem?_eq_some_iff.1 h).1]))
  have HPlen := Lib.hid (show PM.length = D.length by rw [← hPM, mixTo_len])
  have HAs := Lib.hid (fun m x (h : D[m]? = some x) => atTo_succ (size := (size : Int)) h)
  have HAb := Lib.hid (fun m => genTo_bd (size := (size : Int)) (L := D) (by omega) (by omega) (fun x hx => (hg x hx).gen) hD m)
  have HA0 := Lib.hid (show atTo (size : Int) D 0 = 20 + 64 * (D.length : Int) by show 16 + (D.length : Int) * 64 + 4 = _; omega)
  have Hg := Lib.hid (fun m x (h : D[m]? = some x) => hg x (List.mem_of_getElem? h))
  have Hr := Lib.hid hr
  have HDx := Lib.hid (fun m (h : m < D.length) => (show ∃ x, D[m]? = some x from ⟨_, List.getElem?_eq_getElem h⟩))
  have HMf := Lib.hid (show (Tryz.prog.info? 27).map (·.size) = some 9 by kernel_rfl)
  have HO0 := Lib.hid (show w.ownsRow w.heap.size 27 9 (.slice none 0 0) 0 (metaCells (PM.take 0)) from ⟨rfl, .inl ⟨rfl, rfl⟩⟩)
  rw [hPM]
  have Hplc := Lib.hid (fun (N q : Nat) x (h : D[q]? = some x) hN' => plc_nat (N := N) h hg h1 h2 hD hN')
  obtain ⟨nD, hnD⟩ : ∃ nD, D.length = nD := ⟨_, rfl⟩
  rw [hnD] at hD HPlen HA0 HDx hN Hplc ⊢
  have HlS := Lib.hid (fun (q : Nat) x (h : PM[q]? = some x) => lawTo_succ (size := size) (FR := FR) h)
  obtain ⟨nf, hnf⟩ : ∃ nf, FR.length = nf := ⟨_, rfl⟩
  have HkS := Lib.hid (fun (q : Nat) x (h : PM[q]? = some x) => kTo_succ (nf := nf) h)
  have HkL := Lib.hid (kTo_le PM nf)
  have HFs := Lib.hid (fun x (k n : Nat) f (h : FR[k + n]? = some f) => lawF_succ (size := size) (x := x) h)
  have HFr := Lib.hid (fun x (k n : Nat) (h : nf ≤ k + n) r => lawF_rest (size := size) (x := x) (FR := FR) (by rw [hnf]; exact h) r)
  have HFx := Lib.hid (fun j (h : j < nf) => (show ∃ f, FR[j]? = some f from ⟨_, List.getElem?_eq_getElem (by rw [hnf]; exact h)⟩))
  have HFz := Lib.hid (fun j f (h : FR[j]? = some f) => hfs f (List.mem_of_getElem? h))
  have Hf := Lib.hid hf
  rw [hnf] at HlS hfl ⊢
  clear hg hr hf hfs
  go_enter Tryz.func20, Tryz.ntmps20
  go_wp2_with fail
  go_loopw [7, 8, 9] (fun a p i wr => ∃ (m : Nat) (A' : Option Addr) (c' : Nat), m ≤ nD ∧ i = .int .i64 m ∧ a = .int .i64 (atTo size D m) ∧ p = .slice A' m c' ∧ wr.ownsRow w.heap.size 27 9 (.slice A' m c') m (metaCells (PM.take m)) ∧ Below w.heap.size w wr) (fun _ _ i _ => nD - (intOf i).toNat)
  case atStart => exact ⟨0, none, 0, by omega, rfl, by rw [HA0.out], rfl, HO0.out, Below.refl _ _⟩
  case round =>
    obtain ⟨m, A', c', hm, rfl, rfl, rfl, hown, hbel⟩ := hrel
    have Hown := Lib.hid hown
    have Hbel := Lib.hid hbel
    clear hown hbel
    by_cases hlt : m < nD
    · have t1 : (m : Int) < (nD : Int) := by omega
      have t2 : (0 : Int) ≤ (m : Int) := by omega
      obtain ⟨x, hx⟩ := HDx.out m hlt
      obtain ⟨bD, oD, rfl, hbD, hcD⟩ := meta_at (Hr.out.later Hbel.out) hx
      have HX := Lib.hid hcD
      have HFl := Lib.hid (show (Tryz.prog.info? 27).map (·.size) = some x.cells.length from HMf.out)
      have HO1 := Lib.hid (meta_all x)
      have hPx := HPg.out m x hx
      have HTk := Lib.hid (show metaCells (PM.take (m + 1)) = metaCells (PM.take m) ++ (plc size D m x).cells by
        obtain ⟨hm', he⟩ := List.getElem?_eq_some_iff.1 hPx
        rw [List.take_succ_eq_append_getElem hm', he, metaCells_snoc])
      have hA1 := HAs.out m x hx
      have hab := HAb.out m
      have hab1 := HAb.out (m + 1)
      have hgl := Hg.out m x hx
      have hfr := hgl.gen.fr
      obtain ⟨a, ha⟩ : ∃ a, atTo size D m = a := ⟨_, rfl⟩
      have hpl : plc size D m x = { x with sums := a, first := upZ (a + 4 * framesN x) 16 } := by unfold plc; rw [ha]
      rw [hpl] at HTk
      rw [ha] at hA1 hab ⊢
      have hup := upZ_bd (n := a + 4 * framesN x) (b := 16) (by omega) (by omega)
      have HUp := Lib.hid (fun W => up_any (a + 4 * framesN x) 16 W (by omega) (by omega) (by omega) (by omega))
      have hmu := size_mulG (size := (size : Int)) (by omega) (by omega) hfr.1 hfr.2
      obtain ⟨fi, hfi⟩ : ∃ fi, upZ (a + 4 * framesN x) 16 = fi := ⟨_, rfl⟩
      rw [hfi] at HTk hA1 hup HUp
      obtain ⟨⟨g1, g2⟩, ⟨g3, g4⟩, _, _, _, _⟩ := hgl
      have hcz := quo_any g1
      have hczb : 0 ≤ countZ x.length ∧ countZ x.length ≤ 65536 := by unfold countZ; split <;> omega
      have hczw : IntKind.i64.wrap (countZ x.length) = countZ x.length := IntWalk.i64_in _ (by omega)
      obtain ⟨nm, len, rate, ch, lp, f, t, s0, f0⟩ := x
      simp only at g1 g2 g3 g4 hcz hczb hczw
      have hF : countZ len * ch = framesN ⟨nm, len, rate, ch, lp, f, t, s0, f0⟩ := rfl
      generalize framesN ⟨nm, len, rate, ch, lp, f, t, s0, f0⟩ = F at *
      generalize countZ len = cz at *
      obtain ⟨SF, hSF⟩ : ∃ SF, (size : Int) * F = SF := ⟨_, rfl⟩
      rw [hSF] at hA1 hmu
      obtain ⟨w1, hw1⟩ : ∃ w1, wr.alloc (.cells #[.string nm, .int .i64 len, .int .i64 rate, .int .i64 ch, .bool lp, .int .i64 f, .int .i64 t, .int .i64 s0, .int .i64 f0] 27) = w1 := ⟨_, rfl⟩
      have B1 := Lib.hid (show Below wr.heap.size wr w1 by rw [← hw1]; exact bnew wr _)
      have K1 := Lib.hid (show Blk w1 wr.heap.size 27 [.string nm, .int .i64 len, .int .i64 rate, .int .i64 ch, .bool lp, .int .i64 f, .int .i64 t, .int .i64 s0, .int .i64 f0] by rw [← hw1]; exact Blk.new wr _ [.string nm, .int .i64 len, .int .i64 rate, .int .i64 ch, .bool lp, .int .i64 f, .int .i64 t, .int .i64 s0, .int .i64 f0])
      have c1 := blk_cells K1.out 1
      have c3 := blk_cells K1.out 3
      have c7 := blk_cells K1.out 7
      have y7 := blk_free K1.out 7
      obtain ⟨w2, hw2⟩ : ∃ w2, w1.setCell ⟨wr.heap.size, 7, none⟩ (.int .i64 a) = w2 := ⟨_, rfl⟩
      have K2 := Lib.hid (show Blk w2 wr.heap.size 27 [.string nm, .int .i64 len, .int .i64 rate, .int .i64 ch, .bool lp, .int .i64 f, .int .i64 t, .int .i64 a, .int .i64 f0] by rw [← hw2]; exact Blk.set_ K1.out 7 _)
      have B2 := Lib.hid (show Below wr.heap.size wr w2 by rw [← hw2]; exact B1.out.setCell (Nat.le_refl _) _)
      have d8 := blk_cells K2.out 8
      have y8 := blk_free K2.out 8
      obtain ⟨w3, hw3⟩ : ∃ w3, w2.setCell ⟨wr.heap.size, 8, none⟩ (.int .i64 fi) = w3 := ⟨_, rfl⟩
      have K3 := Lib.hid (show Blk w3 wr.heap.size 27 [.string nm, .int .i64 len, .int .i64 rate, .int .i64 ch, .bool lp, .int .i64 f, .int .i64 t, .int .i64 a, .int .i64 fi] by rw [← hw3]; exact Blk.set_ K2.out 8 _)
      have B3 := Lib.hid (show Below wr.heap.size wr w3 by rw [← hw3]; exact B2.out.setCell (Nat.le_refl _) _)
      have e8 := blk_cells K3.out 8
      have HFw := Lib.hid (show (Tryz.prog.info? 27).map (·.size) = some 9 from HMf.out)
      obtain ⟨mc, hmc⟩ : ∃ mc, ([.string nm, .int .i64 len, .int .i64 rate, .int .i64 ch, .bool lp, .int .i64 f, .int .i64 t, .int .i64 a, .int .i64 fi] : List Value) = mc := ⟨_, rfl⟩
      have HTk2 := Lib.hid (show metaCells (PM.take (m + 1)) = metaCells (PM.take m) ++ mc by rw [HTk.out, ← hmc]; rfl)
      have Hmo := Lib.hid (show ∀ u ∈ mc, u.oneCell' = true by rw [← hmc]; exact meta_one ⟨nm, len, rate, ch, lp, f, t, a, fi⟩)
      have Hm9 := Lib.hid (show mc.length = 9 by rw [← hmc]; rfl)
      have Hz9 := Lib.hid (show mc.toArray.size = 9 by rw [List.size_toArray, Hm9.out])
      have HFm := Lib.hid (show (Tryz.prog.info? 27).map (·.size) = some mc.toArray.size by rw [Hz9.out]; exact HMf.out)
      rw [hmc] at K3
      have Hge := Lib.hid (fun j hj => own_block_ge Hown.out j hj)
      have O3 := own_below Hown.out B3.out
      have hz3 := B3.out.size
      have hzw := Hbel.out.size
      clear hx hcD hPx ha hpl hfi hmc
      go_wp2_with (first | (refine wpList_load_part_w rfl 27 (.tmp 33) rfl bD (oD + m * 9) rfl (MetaV.cells ⟨nm, len, rate, ch, lp, f, t, s0, f0⟩) _ HX.out Tryz.underlying27 rfl HFl.out ?_) | (refine wpList_store_row_w rfl 27 (.tmp 10) (.tmp 34) rfl wr.heap.size rfl _ _ #[.string nm, .int .i64 len, .int .i64 rate, .int .i64 ch, .bool lp, .int .i64 f, .int .i64 t, .int .i64 s0, .int .i64 f0] rfl (heap_alloc_new wr _) HMf.out rfl HO1.out ?_; rw [World.setRow_alloc_new, hw1]) | (go_at_call 79; refine (HUp.out _).mono ?_; rintro e w4 ⟨rfl, rfl⟩) | (refine wpList_load_row_w rfl 27 (.tmp 10) rfl wr.heap.size rfl _ mc.toArray _ _ K3.out Tryz.underlying27 rfl HFm.out ?_) | (refine wpList_build_one rfl 22 27 (.tmp 57) rfl i0 z0 9 Tryz.underlying22 hi hz0 hi1 (by omega) (by omega) mc.toArray rfl Hz9.out ?_) | (at_builtin; refine wpList_app _ rfl (.tmp 56) (.tmp 58) 22 rfl w.heap.size 27 i0 z0 9 80 Tryz.underlying22 hi hz0 hi1 hi2 hz0s (by omega) (.slice A' m c') m (metaCells (PM.take m)) rfl (O3.alloc _) (w3.heap.size + 1) (some ⟨w3.heap.size, 0, none⟩) 1 1 mc rfl (by rw [Hm9.out]) (Row.new w3 _ mc) Hmo.out (by omega) (by omega) (by simp; omega) ?_; intro A2 c2 w5 hown5 hgr5 hat5 hcc5))
      go_roundw
      case rel =>
        have hb5 : Below w.heap.size w w5 := ((bnext Hbel.out B3.out).alloc (by omega) (.cells mc.toArray 27)).grown hgr5 (by simp; omega) (fun g h => Hge.out g h)
        exact ⟨m + 1, A2, c2, by omega, by go_num, by rw [hA1], rfl, by rw [HTk2.out]; exact hown5, hb5⟩
      case measure => first | (simp [intOf]; done) | (simp [intOf]; omega)
    · have hmn : m = nD := by omega
      subst hmn
      have t1 : ¬ ((m : Int) < (m : Int)) := by omega
      obtain ⟨iB, hiB, hzB0, hzB1, hzB2⟩ := info_parts inf_u8
      have hown := Hown.out
      rw [List.take_of_length_le (by rw [HPlen.out]; exact Nat.le_refl _)] at hown
      have hab := HAb.out m
      have h20 := atTo_ge20 (size := (size : Int)) (L := D) (fun x hx => by
        obtain ⟨k, hk⟩ := List.getElem?_of_mem hx
        exact (Hg.out k x hk).gen) (by omega) m
      rw [hnD] at h20
      obtain ⟨aE, haE⟩ : ∃ aE, atTo size D m = aE := ⟨_, rfl⟩
      rw [haE] at hab h20 hN ⊢
      have hup := upZ_bd (n := aE) (b := 64) (by omega) (by omega)
      have hup2 := upZ_ge (n := aE) (b := 64) (by omega) (.inr rfl)
      have HUp := Lib.hid (fun W => up_any aE 64 W (by omega) (by omega) (by omega) (by omega))
      obtain ⟨N, hNe⟩ := Int.eq_ofNat_of_zero_le hup.1
      rw [hNe] at HUp hup hup2 ⊢
      rw [Int.toNat_natCast]
      have hNb : 20 + 64 * m ≤ N ∧ N ≤ 10000064 := by omega
      have t3 : ¬ ((N : Int) < 0) := by omega
      obtain ⟨mc, hmc⟩ : ∃ mc, madeCells #[Value.int .u8 0] N = mc := ⟨_, rfl⟩
      have Hms := Lib.hid (show mc = (u8s (List.replicate N 0)).toArray from by
        have h := toList_madeCells_one (Value.int .u8 0) N
        rw [hmc] at h
        have : u8s (List.replicate N 0) = List.replicate N (.int .u8 0) := by simp [u8s]
        rw [this, ← h])
      have HO := Lib.hid hown
      clear hown
      go_wp2_with (first | (go_at_call 79; refine (HUp.out _).mono ?_; rintro e w4 ⟨rfl, rfl⟩) | (refine wpList_make_row wr rfl (.tmp 61) (.tmp 61) 29 rfl 5 iB (.int .u8 0) Tryz.underlying29 hiB hzB0 hzB1 rfl .i64 .i64 N rfl rfl (by rw [hzB2]; omega) (by omega) ?_; rw [hmc]))
      obtain ⟨wB, hwB⟩ : ∃ wB, wr.alloc (.cells mc 5) = wB := ⟨_, rfl⟩
      rw [hwB]
      have hR0 : Row wB wB.heap.size (some ⟨wr.heap.size, 0, none⟩) (u8s (List.replicate N 0)) := by
        have : BytesAt wB wr.heap.size (List.replicate N 0) := by
          rw [← hwB, Hms.out]
          exact Blk.new wr 5 (u8s (List.replicate N 0))
        exact bytes_at_row this
      have hBs : wB.heap.size = wr.heap.size + 1 := by rw [← hwB]; simp
      obtain ⟨C4, hC4⟩ : ∃ C4, (#[.int .u8 67, .int .u8 65, .int .u8 76, .int .u8 49] : Array Value) = C4 := ⟨_, rfl⟩
      obtain ⟨w3, hw3⟩ : ∃ w3, wB.alloc (.cells C4 5 (C4.size, C4.size + 1)) = w3 := ⟨_, rfl⟩
      have hcv := Lib.run_convert_bytes_const (P := Tryz.prog) wB 29 5 C4 4 4 Tryz.underlying29 Tryz.underlying5
      rw [hw3, hBs, ← hC4] at hcv
      have hR4 : Row w3 w3.heap.size (some ⟨wr.heap.size + 1, 0, none⟩) (u8s [67, 65, 76, 49]) := by
        intro i v hv
        refine ⟨wr.heap.size + 1, 0, rfl, by rw [← hw3]; simp; omega, ?_⟩
        rw [← hBs, ← hw3, Nat.zero_add, World.cell?_alloc_mark, ← hC4]
        rw [List.getElem?_toArray]
        exact hv
      have B3 := Lib.hid (show Below w.heap.size w w3 by rw [← hw3, ← hwB]; exact bnext (bnext Hbel.out (bnew wr _)) (bnew _ _))
      have E3 := Lib.hid (show Below wr.heap.size wr w3 by rw [← hw3, ← hwB]; exact bnext (bnew wr _) (bnew _ _))
      have HL1 := Lib.hid (llayN (List.replicate N 0) [67, 65, 76, 49] 0 N 4 (some ⟨wr.heap.size, 0, none⟩) (some ⟨wr.heap.size + 1, 0, none⟩) N 4 w3 (by rw [List.length_replicate]) rfl (by omega) (by omega) (by omega) (hR0.later (by rw [← hw3]; exact bnew wB _)) hR4)
      clear hR0 hwB hmc Hms hw3 hC4 hR4
      go_wp2_with (go_at_call 80; fail)
      rw [hcv]
      go_wp2_with (go_at_call 80; fail)
      refine HL1.out.mono ?_
      rintro e w4 ⟨g4, cc4, rfl, hc4, hR4, hb4⟩
      have B4 := Lib.hid (bnext B3.out hb4)
      have E4 := Lib.hid (bnext E3.out hb4)
      have R4 := Lib.hid hR4
      have L4 := Lib.hid (show (putAt (List.replicate N 0) 0 [67, 65, 76, 49]).length = N by rw [putAt_len (by simp; omega), List.length_replicate])
      have HH := Lib.hid (show lays (List.replicate N 0) (headW N m size) = putAt (putAt (putAt (putAt (List.replicate N 0) 0 [67, 65, 76, 49]) 4 (numB 4 N)) 8 (numB 2 m)) 10 [size] from rfl)
      have Hn1 := Lib.hid (show numB 1 size = [size] by unfold numB; simp; omega)
      generalize putAt (List.replicate N 0) 0 [67, 65, 76, 49] = b4 at *
      clear hR4 hb4 hcv HL1 hc4
      go_wp2_with (go_at_call 81; fail)
      refine (lnumN 4 N _ (by omega) (by omega) (by omega)).mono ?_
      rintro e w5 ⟨g5, c5, rfl, hR5, hb5⟩
      have HL2 := Lib.hid (llayN b4 (numB 4 N) 4 N 4 (some ⟨g4, 0, none⟩) (some ⟨g5, 0, none⟩) cc4 c5 w5 L4.out (numB_len _ _) (by omega) (by omega) (by omega) (R4.out.later hb5) hR5)
      have B5 := Lib.hid (bnext B4.out hb5)
      have E5 := Lib.hid (bnext E4.out hb5)
      clear hR5 hb5
      go_wp2_with (go_at_call 80; fail)
      refine HL2.out.mono ?_
      rintro e w6 ⟨g6, c6, rfl, _, hR6, hb6⟩
      have B6 := Lib.hid (bnext B5.out hb6)
      have E6 := Lib.hid (bnext E5.out hb6)
      have R6 := Lib.hid hR6
      have L6 := Lib.hid (show (putAt b4 4 (numB 4 N)).length = N by rw [putAt_len (by rw [numB_len, L4.out]; omega), L4.out])
      generalize putAt b4 4 (numB 4 N) = b6 at *
      clear hR6 hb6 HL2
      go_wp2_with (go_at_call 81; fail)
      refine (lnumN 2 m _ (by omega) (by omega) (by omega)).mono ?_
      rintro e w7 ⟨g7, c7, rfl, hR7, hb7⟩
      have HL3 := Lib.hid (llayN b6 (numB 2 m) 8 N 2 (some ⟨g6, 0, none⟩) (some ⟨g7, 0, none⟩) c6 c7 w7 L6.out (numB_len _ _) (by omega) (by omega) (by omega) (R6.out.later hb7) hR7)
      have B7 := Lib.hid (bnext B6.out hb7)
      have E7 := Lib.hid (bnext E6.out hb7)
      clear hR7 hb7
      go_wp2_with (go_at_call 80; fail)
      refine HL3.out.mono ?_
      rintro e w8 ⟨g8, c8, rfl, _, hR8, hb8⟩
      have B8 := Lib.hid (bnext B7.out hb8)
      have E8 := Lib.hid (bnext E7.out hb8)
      have R8 := Lib.hid hR8
      have L8 := Lib.hid (show (putAt b6 8 (numB 2 m)).length = N by rw [putAt_len (by rw [numB_len, L6.out]; omega), L6.out])
      generalize putAt b6 8 (numB 2 m) = b8 at *
      clear hR8 hb8 HL3
      go_wp2_with (go_at_call 81; fail)
      refine (lnumN 1 size _ (by omega) (by omega) (by omega)).mono ?_
      rintro e w9 ⟨g9, c9, rfl, hR9, hb9⟩
      rw [Hn1.out] at hR9
      have HL4 := Lib.hid (llayN b8 [size] 10 N 1 (some ⟨g8, 0, none⟩) (some ⟨g9, 0, none⟩) c8 c9 w9 L8.out rfl (by omega) (by omega) (by omega) (R8.out.later hb9) hR9)
      have B9 := Lib.hid (bnext B8.out hb9)
      have E9 := Lib.hid (bnext E8.out hb9)
      clear hR9 hb9
      go_wp2_with (go_at_call 80; fail)
      refine HL4.out.mono ?_
      rintro e w10 ⟨g10, c10, rfl, hc10, hR10, hb10⟩
      have HC10 := Lib.hid hc10
      clear hc10
      have B10 := Lib.hid (bnext B9.out hb10)
      have E10 := Lib.hid (bnext E9.out hb10)
      have L10 := Lib.hid (show (lays (List.replicate N 0) (headW N m size)).length = N by rw [HH.out, putAt_len (by rw [L8.out]; simp; omega), L8.out])
      rw [← HH.out] at hR10
      have R10 := Lib.hid hR10
      clear hR10 hb10 HL4 HH
      have RP := Lib.hid (Row.later (Row.of_own HO.out) E10.out)
      have HZ := Lib.hid (show lawZ size PM FR N = putAt (lays (lays (List.replicate N 0) (headW N m size)) (lawTo size PM FR m)) (16 + 64 * m) (numB 4 (crcZ ((lays (lays (List.replicate N 0) (headW N m size)) (lawTo size PM FR m)).take (16 + 64 * m))).toNat) by
        unfold lawZ lawB
        rw [HPlen.out, lays_app])
      generalize lays (List.replicate N 0) (headW N m size) = X0 at *
      have Hplc2 := Lib.hid (fun (q : Nat) x (h : D[q]? = some x) => Hplc.out N q x h (by rw [haE]; exact hNe))
      clear HO E10 E3 E4 E5 E6 E7 E8 E9 B3 B4 B5 B6 B7 B8 B9 R4 R6 R8 L4 L6 L8 Hn1 HUp Hplc HA0 HAs HAb HO0
      go_wp2_with fail
      go_loopw [12, 13, 14] (fun b k i wr => ∃ (q g c : Nat), q ≤ m ∧ i = .int .i64 q ∧ k = .int .i64 (kTo PM nf q) ∧ b = .slice (some ⟨g, 0, none⟩) N c ∧ N ≤ c ∧ (lays X0 (lawTo size PM FR q)).length = N ∧ Row wr wr.heap.size (some ⟨g, 0, none⟩) (u8s (lays X0 (lawTo size PM FR q))) ∧ Below w10.heap.size w10 wr) (fun _ _ i _ => m - (intOf i).toNat)
      case atStart => exact ⟨0, g10, c10, by omega, rfl, rfl, rfl, HC10.out, L10.out, R10.out, Below.refl _ _⟩
      case round =>
        obtain ⟨q, g, c, hq, rfl, rfl, rfl, hc, hl, hR, hbel⟩ := hrel
        have Hbel := Lib.hid hbel
        have HR := Lib.hid hR
        have Hl := Lib.hid hl
        have Hc := Lib.hid hc
        clear hbel hR hl hc
        by_cases hlt : q < m
        · have t1 : (q : Int) < (m : Int) := by omega
          have t2 : (0 : Int) ≤ (q : Int) := by omega
          obtain ⟨x, hx⟩ := HDx.out q hlt
          have hpx := HPg.out q x hx
          obtain ⟨nm, lp, ln, rn, cn, fn, tn, sn, pn, F, SF, hpl, b1, b2, b3, b4, b5, b6, b7, b8, hcF, b9, hfn, b10, b11, hSF, b12⟩ := Hplc2.out q x hx
          rw [hpl] at hpx hfn
          have hkS := HkS.out q _ hpx
          have hlS := HlS.out q _ hpx
          have hkl := HkL.out q
          rw [hfn, Int.toNat_natCast] at hkS hlS
          rw [entryW_nat] at hlS
          have hF1 := HFs.out ⟨nm, ln, rn, cn, lp, fn, tn, sn, pn⟩
          have hF2 := HFr.out ⟨nm, ln, rn, cn, lp, fn, tn, sn, pn⟩
          simp only [Int.toNat_natCast] at hF1
          obtain ⟨k0, hk0⟩ : ∃ k0, kTo PM nf q = k0 := ⟨_, rfl⟩
          rw [hk0] at hkS hlS hkl ⊢
          obtain ⟨LF, hLF⟩ : ∃ LF, lawF size ⟨nm, ln, rn, cn, lp, fn, tn, sn, pn⟩ FR k0 = LF := ⟨_, rfl⟩
          have hF1 := hF1 k0
          have hF2 := hF2 k0
          have hLF0 : LF 0 = [] := by rw [← hLF]; rfl
          rw [hLF] at hlS hF1 hF2
          obtain ⟨o, ho⟩ : ∃ o, 16 + 64 * q = o := ⟨_, rfl⟩
          have hoi : (16 : Int) + 64 * (q : Int) = (o : Int) := by omega
          rw [ho] at hlS
          have hob : o + 64 ≤ N := by omega
          have hlS2 : lays X0 (lawTo size PM FR (q + 1)) = lays (lays (lays (lays (lays X0 (lawTo size PM FR q)) (entN o nm [ln, rn, fn, tn, sn, pn] 6)) [(o + 56, [cn])]) (if lp = true then [(o + 57, [1])] else [])) (LF F) := by
            rw [hlS]
            simp only [lays_app]
          obtain ⟨YE, hYE⟩ : ∃ YE, lays X0 (lawTo size PM FR (q + 1)) = YE := ⟨_, rfl⟩
          rw [hYE] at hlS2
          have HYE := Lib.hid hYE
          have HQ := Lib.hid hlS2
          clear hYE
          generalize lays X0 (lawTo size PM FR q) = Y at *
          have HkE := Lib.hid hkS
          have HF1 := Lib.hid hF1
          have HF2 := Lib.hid hF2
          have HSF := Lib.hid hSF
          have HcF := Lib.hid hcF
          obtain ⟨bD, oD, rfl, hbD, hcD⟩ := meta_at (RP.out.later Hbel.out) hpx
          have HX := Lib.hid hcD
          have HFl := Lib.hid (show (Tryz.prog.info? 27).map (·.size) = some (MetaV.cells ⟨nm, ln, rn, cn, lp, fn, tn, sn, pn⟩).length from HMf.out)
          have HO1 := Lib.hid (meta_all ⟨nm, ln, rn, cn, lp, fn, tn, sn, pn⟩)
          obtain ⟨w1, hw1⟩ : ∃ w1, wr.alloc (.cells #[.string nm, .int .i64 ln, .int .i64 rn, .int .i64 cn, .bool lp, .int .i64 fn, .int .i64 tn, .int .i64 sn, .int .i64 pn] 27) = w1 := ⟨_, rfl⟩
          have B1 := Lib.hid (show Below wr.heap.size wr w1 by rw [← hw1]; exact bnew wr _)
          have K1 := Lib.hid (show Blk w1 wr.heap.size 27 [.string nm, .int .i64 ln, .int .i64 rn, .int .i64 cn, .bool lp, .int .i64 fn, .int .i64 tn, .int .i64 sn, .int .i64 pn] by rw [← hw1]; exact Blk.new wr _ [.string nm, .int .i64 ln, .int .i64 rn, .int .i64 cn, .bool lp, .int .i64 fn, .int .i64 tn, .int .i64 sn, .int .i64 pn])
          have c0 := blk_cells K1.out 0
          have hz1 : w1.heap.size = wr.heap.size + 1 := by rw [← hw1]; simp
          have hcv := Go.Lib.run_convert_string_bytes (P := Tryz.prog) w1 9 29 5 nm Tryz.underlying9 Tryz.underlying29 Tryz.underlying5
          obtain ⟨w2, hw2⟩ : ∃ w2, Go.Lib.bytesWorld w1 5 nm = w2 := ⟨_, rfl⟩
          rw [hw2] at hcv
          have hR2 : Row w2 w2.heap.size (some ⟨w1.heap.size, 0, none⟩) (u8s (nameB nm)) := by
            intro i v hv
            have hi := (List.getElem?_eq_some_iff.1 hv).1
            have hi' : i < nm.size := by rw [u8s_len, nameB_len] at hi; exact hi
            refine ⟨w1.heap.size, 0, rfl, by rw [← hw2, bytesWorld_size]; omega, ?_⟩
            rw [← hw2, Nat.zero_add, bytesWorld_cell w1 5 nm i hi', ← hv, u8s_get (x := (nm.data.toList.getD i 0).toNat)]
            unfold nameB
            rw [List.getElem?_map, List.getD_eq_getElem?_getD, List.getElem?_eq_getElem (by rw [Lib.size_eq] at hi'; exact hi')]
            rfl
          have B2 := Lib.hid (show Below w1.heap.size w1 w2 from ⟨by rw [← hw2]; rfl, by rw [← hw2]; rfl, by rw [← hw2]; rfl, by rw [← hw2, bytesWorld_size]; omega, fun k hk => by rw [← hw2]; exact bytesWorld_at_old w1 _ nm k hk⟩)
          generalize grownCap w1 nm.size 0 5 = c2 at *
          rw [hz1] at hR2
          have HL1 := Lib.hid (llayN Y (nameB nm) o N nm.size (some ⟨g, 0, none⟩) (some ⟨wr.heap.size + 1, 0, none⟩) c c2 w2 Hl.out (nameB_len nm) (by omega) (by omega) (by omega) (HR.out.later (bnext B1.out B2.out)) hR2)
          clear hx hcD hpx hpl hkS hlS hlS2 hF1 hF2 hLF hk0 ho hR2 hw2 hSF hcF
          go_wp2_with (first | (refine wpList_load_part_w rfl 27 (.tmp 89) rfl bD (oD + q * 9) rfl (MetaV.cells ⟨nm, ln, rn, cn, lp, fn, tn, sn, pn⟩) _ HX.out Tryz.underlying27 rfl HFl.out ?_) | (refine wpList_store_row_w rfl 27 (.tmp 15) (.tmp 90) rfl wr.heap.size rfl _ _ #[.string nm, .int .i64 ln, .int .i64 rn, .int .i64 cn, .bool lp, .int .i64 fn, .int .i64 tn, .int .i64 sn, .int .i64 pn] rfl (heap_alloc_new wr _) HMf.out rfl HO1.out ?_; rw [World.setRow_alloc_new, hw1]) | (go_at_call 80; fail))
          refine HL1.out.mono ?_
          rintro e w3 ⟨g3, c3, rfl, hc3, hR3, hb3⟩
          have E3 := Lib.hid (bnext B2.out hb3)
          have B3 := Lib.hid (bnext Hbel.out (bnext B1.out E3.out))
          have R3 := Lib.hid hR3
          have Hc3 := Lib.hid hc3
          have K3 := Lib.hid (K1.out.below E3.out K1.out.lt)
          have L3 := Lib.hid (show (putAt Y o (nameB nm)).length = N by rw [putAt_len (by rw [nameB_len, Hl.out]; omega), Hl.out])
          clear hcv hc3 hR3 hb3 HL1 B1 B2 K1 Hl HR c0 hz1 HX
          have d1 := blk_cells K3.out 1
          have d2 := blk_cells K3.out 2
          have d5 := blk_cells K3.out 5
          have d6 := blk_cells K3.out 6
          have d7 := blk_cells K3.out 7
          have d8 := blk_cells K3.out 8
          obtain ⟨w4, hw4⟩ : ∃ w4, w3.alloc (.cells #[.int .i64 ln, .int .i64 rn, .int .i64 fn, .int .i64 tn, .int .i64 sn, .int .i64 pn] 3) = w4 := ⟨_, rfl⟩
          have V4 := Lib.hid (show Blk w4 w3.heap.size 3 [.int .i64 ln, .int .i64 rn, .int .i64 fn, .int .i64 tn, .int .i64 sn, .int .i64 pn] by rw [← hw4]; exact Blk.new w3 _ [.int .i64 ln, .int .i64 rn, .int .i64 fn, .int .i64 tn, .int .i64 sn, .int .i64 pn])
          have E4 := Lib.hid (show Below w3.heap.size w3 w4 by rw [← hw4]; exact bnew w3 _)
          have R4 := Lib.hid (R3.out.later E4.out)
          have B4 := Lib.hid (bnext B3.out E4.out)
          have K4 := Lib.hid (K3.out.below E4.out K3.out.lt)
          go_wp2_with fail
          clear d1 d2 d5 d6 d7 d8 hw4 K3 B3 R3 E3 E4
          go_loopw [12, 18] (fun b j wr => ∃ (jn gx cx : Nat), jn ≤ 6 ∧ j = .int .i64 jn ∧ b = .slice (some ⟨gx, 0, none⟩) N cx ∧ N ≤ cx ∧ (lays Y (entN o nm [ln, rn, fn, tn, sn, pn] jn)).length = N ∧ Row wr wr.heap.size (some ⟨gx, 0, none⟩) (u8s (lays Y (entN o nm [ln, rn, fn, tn, sn, pn] jn))) ∧ Below w4.heap.size w4 wr) (fun _ j _ => 6 - (intOf j).toNat)
          case atStart => exact ⟨0, g3, c3, by omega, rfl, rfl, Hc3.out, L3.out, R4.out, Below.refl _ _⟩
          case round =>
            obtain ⟨jn, gx, cx, hj, rfl, rfl, hcx, hlx, hRx, hbx⟩ := hrel
            have Hbx := Lib.hid hbx
            have HRx := Lib.hid hRx
            have Hlx := Lib.hid hlx
            have Hcx := Lib.hid hcx
            clear hbx hRx hlx hcx
            by_cases hj6 : jn < 6
            · have t3 : (jn : Int) < 6 := by omega
              have t4 : (0 : Int) ≤ (jn : Int) := by omega
              obtain ⟨v, hv⟩ := list_get (b := [ln, rn, fn, tn, sn, pn]) (k := jn) rfl hj6
              have hvb : v ≤ 1000000000 := by
                have := List.mem_of_getElem? hv
                simp only [List.mem_cons, List.not_mem_nil, or_false] at this
                rcases this with rfl | rfl | rfl | rfl | rfl | rfl <;> omega
              have hgd : [ln, rn, fn, tn, sn, pn].getD jn 0 = v := by rw [List.getD_eq_getElem?_getD, hv]; rfl
              have cv := (blk_cells (V4.out.below Hbx.out V4.out.lt) jn).trans (show ([.int .i64 ln, .int .i64 rn, .int .i64 fn, .int .i64 tn, .int .i64 sn, .int .i64 pn] : List Value)[jn]? = some (.int .i64 v) from by
                rw [show ([.int .i64 ln, .int .i64 rn, .int .i64 fn, .int .i64 tn, .int .i64 sn, .int .i64 pn] : List Value) = [ln, rn, fn, tn, sn, pn].map (fun (z : Nat) => Value.int .i64 z) from rfl, List.getElem?_map, hv]
                rfl)
              obtain ⟨oj, hoj⟩ : ∃ oj, o + 32 + 4 * jn = oj := ⟨_, rfl⟩
              have hoji : (o : Int) + 32 + 4 * (jn : Int) = (oj : Int) := by omega
              have HE := Lib.hid (show lays Y (entN o nm [ln, rn, fn, tn, sn, pn] (jn + 1)) = putAt (lays Y (entN o nm [ln, rn, fn, tn, sn, pn] jn)) oj (numB 4 v) by rw [entN_succ, lays_snoc, hoj, hgd])
              have hojb : oj + 4 ≤ N := by omega
              clear hv hgd hoj
              go_wp2_with (go_at_call 81; fail)
              refine (lnumN 4 v _ (by omega) (by omega) (by omega)).mono ?_
              rintro e w5 ⟨g5, c5, rfl, hR5, hb5⟩
              have HL := Lib.hid (llayN _ (numB 4 v) oj N 4 (some ⟨gx, 0, none⟩) (some ⟨g5, 0, none⟩) cx c5 w5 Hlx.out (numB_len _ _) (by omega) (by omega) hojb (HRx.out.later hb5) hR5)
              have B5 := Lib.hid hb5
              clear hR5 hb5 cv
              go_wp2_with (go_at_call 80; fail)
              refine HL.out.mono ?_
              rintro e w6 ⟨g6, c6, rfl, hc6, hR6, hb6⟩
              have B6 := Lib.hid (bnext (bnext Hbx.out B5.out) hb6)
              rw [← HE.out] at hR6
              have R6 := Lib.hid hR6
              have Hc6 := Lib.hid hc6
              have L6 := Lib.hid (show (lays Y (entN o nm [ln, rn, fn, tn, sn, pn] (jn + 1))).length = N by rw [HE.out, putAt_len (by rw [numB_len, Hlx.out]; exact hojb), Hlx.out])
              clear hR6 hb6 hc6 HL
              go_wp2_with fail
              go_roundw
              case rel => exact ⟨jn + 1, g6, c6, by omega, by go_num, rfl, Hc6.out, L6.out, R6.out, B6.out⟩
              case measure => first | (simp [intOf]; done) | (simp [intOf]; omega)
            · have hj7 : 6 = jn := by omega
              subst hj7
              generalize lays Y (entN o nm [ln, rn, fn, tn, sn, pn] 6) = Y6 at *
              have K5 := Lib.hid (K4.out.below Hbx.out K4.out.lt)
              have B5 := Lib.hid (bnext B4.out Hbx.out)
              have d3 := blk_cells K5.out 3
              obtain ⟨oc, hoc⟩ : ∃ oc, o + 56 = oc := ⟨_, rfl⟩
              have hoci : (o : Int) + 56 = (oc : Int) := by omega
              obtain ⟨ol, hol⟩ : ∃ ol, o + 57 = ol := ⟨_, rfl⟩
              have holi : (o : Int) + 57 = (ol : Int) := by omega
              have HQ2 := Lib.hid HQ.out
              rw [hoc, hol] at HQ2
              have Hn1 := Lib.hid (show numB 1 cn = [cn] by unfold numB; simp; omega)
              have Hn2 := Lib.hid (show numB 1 1 = [1] from rfl)
              have hocb : oc + 2 ≤ N := by omega
              have holb : ol + 1 ≤ N := by omega
              clear hoc hol HQ V4 K4 B4 R4 L3 Hbx
              go_wp2_with (go_at_call 81; fail)
              refine (lnumN 1 cn _ (by omega) (by omega) (by omega)).mono ?_
              rintro e w6 ⟨g6, c6, rfl, hR6, hb6⟩
              rw [Hn1.out] at hR6
              have HL := Lib.hid (llayN Y6 [cn] oc N 1 (some ⟨gx, 0, none⟩) (some ⟨g6, 0, none⟩) cx c6 w6 Hlx.out rfl (by omega) (by omega) (by omega) (HRx.out.later hb6) hR6)
              have E6 := Lib.hid hb6
              clear hR6 hb6 d3
              go_wp2_with (go_at_call 80; fail)
              refine HL.out.mono ?_
              rintro e w7 ⟨g7, c7, rfl, hc7, hR7, hb7⟩
              have B7 := Lib.hid (bnext B5.out (bnext E6.out hb7))
              have K7 := Lib.hid (K5.out.below (bnext E6.out hb7) K5.out.lt)
              have R7 := Lib.hid hR7
              have Hc7 := Lib.hid hc7
              have L7 := Lib.hid (show (putAt Y6 oc [cn]).length = N by rw [putAt_len (by rw [Hlx.out]; simp; omega), Hlx.out])
              have HQ3 := Lib.hid (show YE = lays (lays (putAt Y6 oc [cn]) (if lp = true then [(ol, [1])] else [])) (LF F) from HQ2.out)
              generalize putAt Y6 oc [cn] = Y7 at *
              clear hR7 hb7 hc7 HL E6 K5 B5 HRx Hlx HQ2
              have d4 := blk_cells K7.out 4
              go_upto_if 139 with fail
              go_cut [12] (fun b wc => ∃ (gx cx : Nat), b = .slice (some ⟨gx, 0, none⟩) N cx ∧ N ≤ cx ∧ (lays Y7 (if lp = true then [(ol, [1])] else [])).length = N ∧ Row wc wc.heap.size (some ⟨gx, 0, none⟩) (u8s (lays Y7 (if lp = true then [(ol, [1])] else []))) ∧ Below w7.heap.size w7 wc)
              case first =>
                cases lp
                · go_wp2
                  go_meet
                  case rel => exact ⟨g7, c7, rfl, Hc7.out, L7.out, R7.out, Below.refl _ _⟩
                · go_wp2_with (go_at_call 81; fail)
                  refine (lnumN 1 1 _ (by omega) (by omega) (by omega)).mono ?_
                  rintro e w8 ⟨g8, c8, rfl, hR8, hb8⟩
                  rw [Hn2.out] at hR8
                  have HL := Lib.hid (llayN Y7 [1] ol N 1 (some ⟨g7, 0, none⟩) (some ⟨g8, 0, none⟩) c7 c8 w8 L7.out rfl (by omega) (by omega) holb (R7.out.later hb8) hR8)
                  have E8 := Lib.hid hb8
                  clear hR8 hb8
                  go_wp2_with (go_at_call 80; fail)
                  refine HL.out.mono ?_
                  rintro e w9 ⟨g9, c9, rfl, hc9, hR9, hb9⟩
                  have L9 := (show (putAt Y7 ol [1]).length = N by rw [putAt_len (by rw [L7.out]; exact holb), L7.out])
                  have E9 := Lib.hid (bnext E8.out hb9)
                  have R9 := Lib.hid hR9
                  have Hc9 := Lib.hid hc9
                  have L9 := Lib.hid L9
                  clear hR9 hb9 hc9
                  go_wp2
                  go_meet
                  case rel => exact ⟨g9, c9, rfl, Hc9.out, L9.out, R9.out, E9.out⟩
              case rest =>
                obtain ⟨gy, cy, rfl, hcy, hly, hRy, hby⟩ := hcut
                have HQ4 := Lib.hid HQ3.out
                generalize lays Y7 (if lp = true then [(ol, [1])] else []) = X4 at *
                have Kc := Lib.hid (K7.out.below hby K7.out.lt)
                have Bc := Lib.hid (bnext B7.out hby)
                have Ry := Lib.hid hRy
                have Ly := Lib.hid hly
                have Hcy := Lib.hid hcy
                clear hcy hly hRy hby d4 K7 B7 R7 L7 HQ3
                have hquo := quo_any (n := (ln : Int)) (by omega)
                have hczb : 0 ≤ countZ (ln : Int) ∧ countZ (ln : Int) ≤ 65536 := by unfold countZ; split <;> omega
                have hczw : IntKind.i64.wrap (countZ (ln : Int)) = countZ (ln : Int) := IntWalk.i64_in _ (by omega)
                have hcF := HcF.out
                generalize countZ (ln : Int) = cz at *
                go_wp2_with fail
                go_loopw [12, 13, 19] (fun b k i wr => ∃ (n gx cx : Nat), n ≤ F ∧ k0 + n ≤ nf ∧ i = .int .i64 n ∧ k = .int .i64 ((k0 + n : Nat) : Int) ∧ b = .slice (some ⟨gx, 0, none⟩) N cx ∧ N ≤ cx ∧ (lays X4 (LF n)).length = N ∧ Row wr wr.heap.size (some ⟨gx, 0, none⟩) (u8s (lays X4 (LF n))) ∧ Below wc.heap.size wc wr) (fun _ _ i _ => F - (intOf i).toNat)
                case atStart => exact ⟨0, gy, cy, by omega, hkl, rfl, rfl, rfl, Hcy.out, by rw [hLF0]; exact Ly.out, by rw [hLF0]; exact Ry.out, Below.refl _ _⟩
                case round =>
                  obtain ⟨n, gx, cx, hn, hkn, rfl, rfl, rfl, hcx, hlx, hRx, hbx⟩ := hrel
                  have Hbx := Lib.hid hbx
                  have HRx := Lib.hid hRx
                  have Hlx := Lib.hid hlx
                  have Hcx := Lib.hid hcx
                  clear hbx hRx hlx hcx
                  have Kx := Lib.hid (Kc.out.below Hbx.out Kc.out.lt)
                  have Bx := Lib.hid (bnext Bc.out Hbx.out)
                  have e1 := blk_cells Kx.out 1
                  have e3 := blk_cells Kx.out 3
                  obtain ⟨kn, hkn2⟩ : ∃ kn, k0 + n = kn := ⟨_, rfl⟩
                  rw [hkn2] at hkn ⊢
                  by_cases hnF : n < F
                  · have t3 : (n : Int) < (F : Int) := by omega
                    by_cases hnk : kn < nf
                    · have t4 : (kn : Int) < (nf : Int) := by omega
                      have t5 : (0 : Int) ≤ (kn : Int) := by omega
                      obtain ⟨f, hf⟩ := HFx.out kn hnk
                      have hfz := HFz.out _ f hf
                      have hLs := HF1.out n f (by rw [hkn2]; exact hf)
                      obtain ⟨vs, hvl, hvr, hva⟩ := Hf.out.at_
                      obtain ⟨vf, hvf⟩ := list_get (k := kn) (hvl.trans hnf) hnk
                      obtain ⟨af, cf, rfl, hcf1, hcf2, hrf⟩ := hva kn vf f hvf hf
                      rw [hfz] at hvf hcf1
                      obtain ⟨bF, oF, rfl, hbF, hcl⟩ := hvr kn _ hvf
                      have Bw := Lib.hid (bnext B10.out Bx.out)
                      have HrF := Lib.hid hrf
                      have HcL := Lib.hid hcl
                      have hbd := crcZ_bd f
                      obtain ⟨Cn, hCn⟩ := Int.eq_ofNat_of_zero_le hbd.1
                      rw [hCn] at hbd hLs
                      rw [Int.toNat_natCast] at hLs
                      obtain ⟨an, han⟩ : ∃ an, sn + 4 * n = an := ⟨_, rfl⟩
                      have hani : (sn : Int) + 4 * (n : Int) = (an : Int) := by omega
                      obtain ⟨Sn, hSn⟩ : ∃ Sn, size * n = Sn := ⟨_, rfl⟩
                      have hSni : (size : Int) * (n : Int) = (Sn : Int) := by rw [← hSn]; push_cast; rfl
                      obtain ⟨fo, hfo⟩ : ∃ fo, pn + Sn = fo := ⟨_, rfl⟩
                      have hfoi : (pn : Int) + (Sn : Int) = (fo : Int) := by omega
                      have hmu : Sn + size ≤ SF := by
                        have := Nat.mul_le_mul_left size (show n + 1 ≤ F by omega)
                        rw [Nat.mul_succ, hSn, HSF.out] at this
                        exact this
                      have hanb : an + 4 ≤ N := by omega
                      have hfob : fo + size ≤ N := by omega
                      rw [han, hSn, hfo] at hLs
                      have HLs := Lib.hid (show lays X4 (LF (n + 1)) = putAt (putAt (lays X4 (LF n)) an (numB 4 Cn)) fo f by rw [hLs, lays_app]; rfl)
                      have X7 := Lib.hid (fun (W : World) (hW : Below wr.heap.size wr W) => (show _ = some (Value.int .i64 (sn : Int)) from blk_cells (Kx.out.below hW Kx.out.lt) 7))
                      have XK := Lib.hid (fun (W : World) (hW : Below wr.heap.size wr W) => ((bnext Bw.out hW).cell (p := ⟨bF, oF + kn, none⟩) hbF).trans HcL.out)
                      have HC := Lib.hid (fun (W : World) (hW : Below wr.heap.size wr W) => (show Calls Tryz.prog 71 #[.slice af size cf] W (fun e w' => e = .returned (.int .u32 (Cn : Int)) ∧ W = w') from by
                        have := crcSum_any f af cf W (by omega) (HrF.out.later (bnext Bw.out hW))
                        rwa [hfz, hCn] at this))
                      have HL := Lib.hid (fun (g6 c6 : Nat) (W : World) (hW : Below wr.heap.size wr W) (h : Row W W.heap.size (some ⟨g6, 0, none⟩) (u8s (numB 4 Cn))) => llayN _ (numB 4 Cn) an N 4 (some ⟨gx, 0, none⟩) (some ⟨g6, 0, none⟩) cx c6 W Hlx.out (numB_len _ _) (by omega) (by omega) hanb (HRx.out.later hW) h)
                      have hwC : IntKind.i64.wrap (Cn : Int) = (Cn : Int) := IntWalk.i64_in _ (by omega)
                      clear hf hva hvf hvr hrf hcl hCn han hSn hfo hLs hvl
                      go_wp2_with fail
                      clear e1 e3
                      have HwA := Lib.hid (show IntKind.i64.wrap ((sn : Int) + IntKind.i64.wrap (4 * (n : Int))) = (an : Int) from by
                        rw [show IntKind.i64.wrap (4 * (n : Int)) = 4 * (n : Int) from IntWalk.i64_in _ (by omega), hani]
                        exact IntWalk.i64_in _ (by omega))
                      have x7 := X7.out wr.drew (below_drew1 wr)
                      have xk := XK.out wr.drew (below_drew1 wr)
                      go_region_with (first | (go_at_call 71; refine (HC.out _ (below_drew1 wr)).mono ?_; rintro e w5 ⟨rfl, rfl⟩) | (go_at_call 81; refine (lnumN 4 Cn _ (by omega) (by omega) (by omega)).mono ?_; rintro e w6 ⟨g6, c6, rfl, hR6, hb6⟩; have E6 := Lib.hid (bnext (below_drew1 wr) hb6); have x7b := X7.out w6 E6.out; have HL6 := Lib.hid (HL.out g6 c6 w6 E6.out hR6); clear hR6 hb6) | (go_at_call 80; rw [HwA.out]; refine HL6.out.mono ?_; rintro e w7 ⟨g7, c7, rfl, hc7, hR7, hb7⟩))
                      all_goals
                       clear x7 xk x7b HwA
                       have E7 := Lib.hid (bnext E6.out hb7)
                       have K7 := Lib.hid (Kx.out.below E7.out Kx.out.lt)
                       have L7 := Lib.hid (show (putAt (lays X4 (LF n)) an (numB 4 Cn)).length = N by rw [putAt_len (by rw [numB_len, Hlx.out]; exact hanb), Hlx.out])
                       have R7 := Lib.hid hR7
                       clear hR7 hb7 hc7 HL HL6 E6 X7 XK HC
                       generalize putAt (lays X4 (LF n)) an (numB 4 Cn) = P7 at *
                       have Bw7 := Lib.hid (bnext Bw.out E7.out)
                       have x8 := fun (z : GW w7) => (show _ = some (Value.int .i64 (pn : Int)) from blk_cells (K7.out.below z.2 K7.out.lt) 8)
                       have xk := fun (z : GW w7) => ((bnext Bw7.out z.2).cell (p := ⟨bF, oF + kn, none⟩) hbF).trans HcL.out
                       go_wp2_with fail
                       go_simp
                       refine wp_region_calm_tail 11 (by kernel_rfl) (by kernel_rfl) ?_
                       simp only [List.take_succ_cons, List.take_zero, List.drop_succ_cons, List.drop_zero]
                       repeat (go_big_quiet_step (fail))
                       refine wpQuiet_nil ?_
                       intro w8 hw'
                       have E8 := Lib.hid (gw_below hw')
                       clear hw' x8 xk
                       have HL := Lib.hid (llayN P7 f fo N size (some ⟨g7, 0, none⟩) af c7 cf w8 L7.out hfz (by omega) (by omega) hfob (R7.out.later E8.out) (HrF.out.later (bnext Bw7.out E8.out)))
                       go_wp2_with (go_at_call 80; fail)
                       refine HL.out.mono ?_
                       rintro e w9 ⟨g9, c9, rfl, hc9, hR9, hb9⟩
                       rw [← HLs.out] at hR9
                       have L9 := Lib.hid (show (lays X4 (LF (n + 1))).length = N by rw [HLs.out, putAt_len (by rw [L7.out, hfz]; exact hfob), L7.out])
                       have R9 := Lib.hid hR9
                       have Hc9 := Lib.hid hc9
                       have E9 := Lib.hid (bnext (bnext Hbx.out E7.out) (bnext E8.out hb9))
                       clear hR9 hc9 hb9 HL
                       go_wp2_with fail
                       go_roundw
                       case rel => exact ⟨n + 1, g9, c9, by omega, by omega, by go_num, congrArg (Value.int .i64) (by omega), rfl, Hc9.out, L9.out, R9.out, E9.out⟩
                       case measure => first | (simp [intOf]; done) | (simp [intOf]; omega)
                    · have t4 : ¬ (kn : Int) < (nf : Int) := by omega
                      have hLe : LF F = LF n := by
                        have := HF2.out n (by omega) (F - n)
                        rwa [show n + (F - n) = F by omega] at this
                      have HYL := Lib.hid (show YE = lays X4 (LF n) by rw [HQ4.out, hLe])
                      have hke : kTo PM nf (q + 1) = kn := by rw [HkE.out]; omega
                      have Hke := Lib.hid hke
                      clear hLe hke
                      go_wp2
                      go_roundw
                      case rel => exact ⟨q + 1, gx, cx, by omega, by go_num, by rw [Hke.out], rfl, Hcx.out, by rw [HYE.out, HYL.out]; exact Hlx.out, by rw [HYE.out, HYL.out]; exact HRx.out, Bx.out⟩
                      case measure => first | (simp [intOf]; done) | (simp [intOf]; omega)
                  · have t3 : ¬ (n : Int) < (F : Int) := by omega
                    have hLe : LF F = LF n := by rw [show F = n by omega]
                    have HYL := Lib.hid (show YE = lays X4 (LF n) by rw [HQ4.out, hLe])
                    have hke : kTo PM nf (q + 1) = kn := by rw [HkE.out]; omega
                    have Hke := Lib.hid hke
                    clear hLe hke
                    go_wp2
                    go_roundw
                    case rel => exact ⟨q + 1, gx, cx, by omega, by go_num, by rw [Hke.out], rfl, Hcx.out, by rw [HYE.out, HYL.out]; exact Hlx.out, by rw [HYE.out, HYL.out]; exact HRx.out, Bx.out⟩
                    case measure => first | (simp [intOf]; done) | (simp [intOf]; omega)
        · have hqm : m = q := by omega
          subst hqm
          have t1 : ¬ ((m : Int) < (m : Int)) := by omega
          obtain ⟨eE, heE⟩ : ∃ eE, 16 + 64 * m = eE := ⟨_, rfl⟩
          have heEi : (16 : Int) + 64 * (m : Int) = (eE : Int) := by omega
          obtain ⟨XB, hXB⟩ : ∃ XB, lays X0 (lawTo size PM FR m) = XB := ⟨_, rfl⟩
          rw [hXB] at HR Hl
          have hbd := crcZ_bd (XB.take eE)
          obtain ⟨Cn, hCn⟩ := Int.eq_ofNat_of_zero_le hbd.1
          have HCr := Lib.hid (show Calls Tryz.prog 71 #[.slice (some ⟨g, 0, none⟩) eE c] wr (fun e w' => e = .returned (.int .u32 (Cn : Int)) ∧ wr = w') from by
            have h := HR.out.take eE
            rw [u8s_take] at h
            have := crcSum_any (XB.take eE) (some ⟨g, 0, none⟩) c wr (by rw [List.length_take]; omega) h
            rw [List.length_take, Hl.out, Nat.min_eq_left (by omega), hCn] at this
            exact this)
          have HFin := Lib.hid (show lawZ size PM FR (upZ (atTo (size : Int) D m) 64).toNat = putAt XB eE (numB 4 Cn) by rw [haE, hNe, Int.toNat_natCast, HZ.out, hXB, heE, hCn, Int.toNat_natCast])
          rw [hCn] at hbd
          have hwC : IntKind.i64.wrap (Cn : Int) = (Cn : Int) := IntWalk.i64_in _ (by omega)
          have hcN := Hc.out
          have t2 : (eE : Int) ≤ (c : Int) := by omega
          have t3 : (0 : Int) ≤ (eE : Int) := by omega
          clear hCn heE hXB
          go_wp2_with (first | (go_at_call 71; refine HCr.out.mono ?_; rintro e w3 ⟨rfl, rfl⟩) | (go_at_call 81; fail))
          refine (lnumN 4 Cn _ (by omega) (by omega) (by omega)).mono ?_
          rintro e w4 ⟨g4, c4, rfl, hR4, hb4⟩
          have HL := Lib.hid (llayF XB (numB 4 Cn) eE N 4 (some ⟨g, 0, none⟩) (some ⟨g4, 0, none⟩) c c4 w4 Hl.out (numB_len _ _) (by omega) (by omega) (by omega) (HR.out.later hb4) hR4)
          have B4 := Lib.hid (bnext (bnext B10.out Hbel.out) hb4)
          clear hR4 hb4
          go_wp2_with (go_at_call 80; fail)
          refine HL.out.mono ?_
          rintro e w5 ⟨g5, c5, rfl, hc5, hcm5, hg5, hR5, hb5⟩
          have hs4 := B4.out.size
          have B5 := Lib.hid (bnext B4.out hb5)
          go_wp2
          go_ret
          rw [HFin.out]
          exact ⟨g5, c5, rfl, hc5, hcm5, by omega, hR5, B5.out⟩
end Go.Proofs.YtgcfkblmnpnogaaGreatDoor
