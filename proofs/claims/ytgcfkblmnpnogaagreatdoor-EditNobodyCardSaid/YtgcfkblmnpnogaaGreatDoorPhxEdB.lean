/- EdB. Conditions: as each theorem states. -/
import Derived.Test.YtgcfkblmnpnogaaGreatDoorPhxEdA
import Derived.Test.YtgcfkblmnpnogaaGreatDoorPhxCalmT

namespace Go.Proofs.YtgcfkblmnpnogaaGreatDoor
open Go.RowKit Go.Lib

set_option maxRecDepth 100000 in
set_option maxHeartbeats 16000000 in
theorem Bytes_own (g size : Nat) (bs : List Nat) (D : List MetaV) (i c b : Int) (w : World) (h : BankAt w g bs size D) (hf : FitB bs size D) (hE : whereE D i c b = 0) :
    Calls Tryz.prog 21 #[.pointer (some ⟨g, 0, none⟩), .int .i64 i, .int .i64 c, .int .i64 b] w fun e w' => ∃ A c', e = .returned (.tuple #[.slice A size c', .int .i64 0]) ∧ size ≤ c' ∧ c' ≤ 9223372036854775807 ∧ w'.ownsRow 0 5 1 (.slice A size c') size (u8s (subB bs (whereAt D size i c b).toNat size)) ∧ Below w.heap.size w w' := by
  have HW := Lib.hid (Where_any g size bs D i c b w h hf)
  unfold WherePost at HW
  obtain ⟨x, hxD, hxe, chN, cn, bn, S, F, q, P, e1, rfl, rfl, e2, e3, hm1, hq, hP, hm2, l1, l2, _, b0, b1, hbc⟩ := where_lies hf hE
  have hA : whereAt D size i cn bn = ((F + P : Nat) : Int) := by
    unfold whereAt frameNo
    rw [if_pos hE, hxe, e1, e3, hm1, ← Int.natCast_add, hq, hm2]
    push_cast; rfl
  have hVb : whereSum D bs i cn bn < 4294967296 := by
    rw [show whereSum D bs i cn bn = readTo bs ((metaI D i).sums + 4 * frameNo D i cn bn).toNat 4 from if_pos hE]
    exact readTo_lt hf.byt _ 4
  rw [hA, hE] at HW
  obtain ⟨V, hV⟩ : ∃ V, whereSum D bs i cn bn = V := ⟨_, rfl⟩
  rw [hV] at HW hVb
  have HEn := Lib.hid hE
  obtain ⟨AT, hAT⟩ : ∃ AT, F + P = AT := ⟨_, rfl⟩
  rw [hAT] at HW hA l2
  have HAn := Lib.hid (show (whereAt D size i cn bn).toNat = AT by rw [hA]; rfl)
  rw [HAn.out]
  have hln := hf.long
  have hlo := hf.lo
  have hhi := hf.hi
  obtain ⟨Ai, ci, Ad, cd, h1, h2, _, h4, h5, _, _, _, _⟩ := h.at_
  obtain ⟨y0, hy0⟩ : ∃ y0, bs[0]? = some y0 := ⟨_, List.getElem?_eq_getElem (by omega)⟩
  obtain ⟨gi, off, rfl, _, _⟩ := h2 0 _ (u8s_get hy0)
  have HXc := Lib.hid (fun W (hW : Below w.heap.size w W) j v (hv : ([.slice (some ⟨gi, off, none⟩) bs.length ci, .int .i64 size, .slice Ad D.length cd] : List Value)[j]? = some v) => (show W.cell? ⟨g, j, none⟩ = some v from by
    have hB : Blk w g 130 [.slice (some ⟨gi, off, none⟩) bs.length ci, .int .i64 size, .slice Ad D.length cd] := h1
    rw [blk_cells (hB.below hW hB.lt) j]; exact hv))
  have HCl := Lib.hid (fun W (hW : Below w.heap.size w W) => (show Calls Tryz.prog 75 #[.slice (some ⟨gi, off + AT, none⟩) size (ci - AT)] W (CopyP W 5 1 size (u8s (subB bs AT size))) from by
    have hr := (((h2.later hW).drop_ AT).take size)
    rw [u8s_drop, u8s_take, subB_drop (by omega)] at hr
    exact cloneB_any (subB bs AT size) (some ⟨gi, off + AT, none⟩) size (ci - AT) W (subB_len _ _ _) (by omega) nofun hr))
  clear hE hxe hf h h1 h2 hxD hV hA e1 e2 e3 hm1 hq hP hm2 hAT hy0 b1 b0 HAn hbc l1
  generalize whereE D i cn bn = E at *
  generalize bs.length = n at *
  generalize D.length = dn at *
  have k1 : AT + size ≤ n := by omega
  have k2 : n ≤ ci := by omega
  have hati : (AT : Int) + (size : Int) = ((AT + size : Nat) : Int) := by push_cast; rfl
  have Hati := Lib.hid hati
  clear hati l2
  go_enter Tryz.func21, Tryz.ntmps21
  go_wp2_with (go_at_call 56; fail)
  refine HW.out.mono ?_
  rintro e w2 ⟨rfl, hb2⟩
  have B2 := Lib.hid hb2
  clear hb2
  go_wp2_with fail
  have x0 := fun (z : GW w2) => HXc.out z.1 (bnext B2.out z.2) 0 _ rfl
  have x1 := fun (z : GW w2) => HXc.out z.1 (bnext B2.out z.2) 1 _ rfl
  refine wp_region_calm_tail 12 (by kernel_rfl) (by kernel_rfl) ?_
  simp only [List.take_succ_cons, List.take_zero, List.drop_succ_cons, List.drop_zero]
  repeat (go_big_quiet_step (fail))
  refine wpQuiet_nil ?_
  intro w5 hw'
  have B5 := Lib.hid (gw_below hw')
  clear hw' x0 x1
  have HC5 := Lib.hid (HCl.out w5 (bnext B2.out B5.out))
  go_wp2_with (go_at_call 75; fail)
  refine HC5.out.mono ?_
  rintro e w6 ⟨A6, c6, rfl, h6c, h6m, h6n, hown, hb6⟩
  have R6 := Lib.hid (own_base hown (Nat.zero_le _))
  clear hown
  go_wp2
  refine bodyPost_ret (results_tmp2 Tryz.results21 _ _ _) rfl ?_
  exact ⟨A6, c6, rfl, h6c, h6m, R6.out, bnext (bnext B2.out B5.out) hb6⟩
theorem inf_row8 : (Tryz.prog.info? 29).map (fun i => (i.zero, i.size, i.bytes)) = some (some (.slice none 0 0), 1, 24) := by kernel_rfl
theorem FsAt.blk {w w' : World} {base g : Nat} {A : Option Addr} {c : Nat} {FR : List (List Nat)} {vs cs : List Value} {T : TypeId} (h : FsAt w base A c FR vs) (k : Blk w g T cs) (h1 : T ≠ 29) (h2 : T ≠ 5) (hg : w.grownBy w' (some g)) : FsAt w' base A c FR vs :=
  ⟨h.len, h.own.kept hg (.inr (own_ne h.own k h1).symm), fun j v f q1 q2 => by
    obtain ⟨a, k', e, h3, h4, h5⟩ := h.each j v f q1 q2
    exact ⟨a, k', e, h3, h4, h5.kept hg (.inr (own_ne h5 k h2).symm)⟩⟩
theorem RawAt.blk {w w' : World} {g : Nat} {p : HRaw × RawV} {cs : List Value} {T : TypeId} (h : RawAt w p) (k : Blk w g T cs) (h1 : T ≠ 29) (h2 : T ≠ 5) (hg : w.grownBy w' (some g)) : RawAt w' p := by
  obtain ⟨vs, h⟩ := h
  exact ⟨vs, h.blk k h1 h2 hg⟩
theorem grownBy_new {a w w' : World} {r row : Option Nat} (h : a.grownBy w r) (k : w.grownBy w' row) (hr : ∀ j, row = some j → a.heap.size ≤ j) : a.grownBy w' r :=
  ⟨k.os.trans h.os, k.tape.trans h.tape, k.output.trans h.output, Nat.le_trans h.size k.size, fun j hj hne => (k.block j (by have := h.size; omega) (fun e => by have := hr j e.symm; omega)).trans (h.block j hj hne)⟩
theorem kOf_at {size : Nat} {D : List MetaV} (hL : ∀ x ∈ D, GenM x) : ∀ m, m ≤ D.length → ((size * kOf D m : Nat) : Int) ≤ atTo size D m
  | 0, _ => by
    unfold atTo kOf
    rw [Nat.mul_zero]
    omega
  | m + 1, hm => by
    obtain ⟨x, hx⟩ : ∃ x, D[m]? = some x := ⟨_, List.getElem?_eq_getElem (by omega)⟩
    have ih := kOf_at (size := size) hL m (by omega)
    have hF := (hL x (List.mem_of_getElem? hx)).fr
    obtain ⟨F, hFn⟩ := Int.eq_ofNat_of_zero_le hF.1
    have hg := upZ16_ge (atTo size D m + 4 * framesN x)
    rw [atTo_succ hx, kOf_succ hx, hFn, Int.toNat_natCast, Nat.mul_add]
    rw [hFn] at hg
    have e : ((size * F : Nat) : Int) = (size : Int) * (F : Int) := by push_cast; rfl
    generalize (size : Int) * (F : Int) = P at *
    generalize size * F = Q at *
    generalize size * kOf D m = R at *
    push_cast
    omega
theorem CanB.few {size : Nat} {D : List MetaV} {FR : List (List Nat)} (h : CanB size D FR) : FR.length ≤ 400000 := by
  have h1 := kOf_at (size := size) h.gen D.length (Nat.le_refl _)
  have h2 := (h.bd D.length (Nat.le_refl _)).2
  rw [h.cnt] at h1
  have h3 := Nat.mul_le_mul_right FR.length h.lo
  generalize size * FR.length = Q at *
  omega
/-- what all leaves -/
def AllP (w : World) (Z : List RawV) (e : Ending) (w' : World) : Prop := ∃ A c L, e = .returned (.slice A (List.length L) c) ∧ List.map Prod.snd L = Z ∧ RawsAt w' w.heap.size A c L ∧ Below w.heap.size w w'
set_option maxRecDepth 100000 in
set_option maxHeartbeats 16000000 in
theorem all_any {size : Nat} {D : List MetaV} {FR : List (List Nat)} (hC : CanB size D FR) (g : Nat) (w : World) (hB : BankAt w g (bldZ size D FR) size (bldDir size D)) :
    Calls Tryz.prog 89 #[.pointer (some ⟨g, 0, none⟩)] w (AllP w (allZ size D FR D.length)) := by
  obtain ⟨i0, hi, ⟨z0, hz0, hz0s⟩, hi1, hi2⟩ := raw_info
  obtain ⟨iB, hiB, hzB0, hzB1, hzB2⟩ := info_parts inf_row8
  have HDi := Lib.hid (BDir_any hB (by have := hC.lo; omega) (by rw [bldDir_len]; exact hC.many))
  have HBy := Lib.hid (fun W i c b (hW : Below w.heap.size w W) hE => Bytes_own g size (bldZ size D FR) (bldDir size D) i c b W (hB.later hW) hC.fit hE)
  have HAs := Lib.hid (fun (m n c ch cz : Nat) (y : MetaV) a1 a2 a3 a4 a5 => hC.asked (m := m) (n := n) (c := c) (ch := ch) (cz := cz) (y := y) a1 a2 a3 a4 a5)
  have HRt := Lib.hid (fun x (h : x ∈ bldDir size D) => (hC.goodE x h).2)
  have HZs := Lib.hid (fun (m : Nat) x (h : (bldDir size D)[m]? = some x) => allZ_succ (FR := FR) h)
  have HZ0 := Lib.hid (show allZ size D FR 0 = [] from rfl)
  have HPg := Lib.hid (fun (m : Nat) y (h : D[m]? = some y) => bldDir_get (size := size) h)
  have Hlen := Lib.hid hC.len
  have HBk := Lib.hid hB
  have hlo := hC.lo
  have hhi := hC.hi
  have hmany := hC.many
  have HkL := Lib.hid (fun m x (h : (bldDir size D)[m]? = some x) => hC.at_ h)
  have HFl := Lib.hid hC.few
  rw [bldDir_len] at HDi
  have HPl := Lib.hid (bldDir_len size D)
  obtain ⟨nD, hnD⟩ : ∃ n, D.length = n := ⟨_, rfl⟩
  rw [hnD] at HDi HPl hmany ⊢
  have HnD := Lib.hid hnD
  generalize bldZ size D FR = Z at *
  generalize bldDir size D = PM at *
  clear hB hC hnD
  go_enter Tryz.func89, Tryz.ntmps89
  go_wp2_with (go_at_call 24; fail)
  refine HDi.out.mono ?_
  rintro e w1 ⟨Ad, cd, rfl, _, _, _, hown, hb1⟩
  have B1 := Lib.hid hb1
  have RD := Lib.hid (Row.of_own hown)
  clear hown hb1 HDi
  go_wp2_with fail
  go_loopw [3, 13] (fun o i wr => ∃ (m : Nat) (A' : Option Addr) (c' : Nat) (L : List (HRaw × RawV)), m ≤ nD ∧ i = .int .i64 m ∧ L.length = m ∧ o = .slice A' m c' ∧ L.map Prod.snd = allZ size D FR m ∧ RawsAt wr w1.heap.size A' c' L ∧ Below w1.heap.size w1 wr) (fun _ i _ => nD - (intOf i).toNat)
  case atStart => exact ⟨0, none, 0, [], by omega, rfl, rfl, rfl, rfl, ⟨World.ownsRow_nil _ _ _ _, nofun⟩, Below.refl _ _⟩
  case round =>
    obtain ⟨m, A', c', L, hm, rfl, hLm, rfl, hmap, hraws, hbel⟩ := hrel
    have HLm := Lib.hid hLm
    have Hmap := Lib.hid hmap
    have HRw := Lib.hid hraws
    have Hbel := Lib.hid hbel
    clear hLm hmap hraws hbel
    obtain ⟨wa, rfl⟩ : ∃ wa, wa = wr := ⟨_, rfl⟩
    by_cases hlt : m < nD
    · have t1 : (m : Int) < (nD : Int) := by omega
      have t2 : (0 : Int) ≤ (m : Int) := by omega
      obtain ⟨y, hy⟩ := list_get (k := m) HnD.out hlt
      have hx := HPg.out m y hy
      obtain ⟨x, hxe⟩ : ∃ x, plc size D m y = x := ⟨_, rfl⟩
      rw [hxe] at hx
      obtain ⟨bD, oD, rfl, hbD, hcD⟩ := meta_at (RD.out.later Hbel.out) hx
      have HX := Lib.hid hcD
      have hrt := HRt.out x (List.mem_of_getElem? hx)
      obtain ⟨⟨l1, l2⟩, _, ⟨l3, l4⟩, _, _⟩ := right_bds hrt
      obtain ⟨ch, hch⟩ := Int.eq_ofNat_of_zero_le (show 0 ≤ x.channels by omega)
      have hczb : 1 ≤ countZ x.length ∧ countZ x.length ≤ 65536 := by unfold countZ; split <;> omega
      obtain ⟨cz, hcz⟩ := Int.eq_ofNat_of_zero_le (show 0 ≤ countZ x.length by omega)
      have hyl : y.length = x.length ∧ y.channels = x.channels := by rw [← hxe]; exact ⟨rfl, rfl⟩
      obtain ⟨F0, S0, T, hq1, hq2, hxT, h1T, hkS, hkL, _⟩ := HkL.out m x hx
      clear hq1 hq2
      have HFr := Lib.hid (fun W => (show Calls Tryz.prog 17 #[.agg x.cells.toArray] W (fun e w' => e = .returned (.int .i64 (T : Nat)) ∧ Below W.heap.size W w') from by
        have := bankFrames_any x W (by omega) (by omega)
        rwa [hxT] at this))
      have HA2 := Lib.hid (fun (n c : Nat) (hn : n < cz) (hc : c < ch) => HAs.out m n c ch cz y hy (by rw [hyl.2]; exact hch) (by rw [hyl.1]; exact hcz) hn hc)
      have hTc : T = cz * ch := by
        have : framesN x = countZ x.length * x.channels := rfl
        rw [hxT, hch, hcz] at this
        have h2 : ((cz * ch : Nat) : Int) = (T : Int) := by rw [this]; push_cast; rfl
        omega
      have HZs1 := Lib.hid (HZs.out m x hx)
      rw [hxT, Int.toNat_natCast] at HZs1
      rw [hch] at l3 l4
      obtain ⟨nm, len, rate, chv, lp, f, t, s0, f0⟩ := x
      simp only at hch
      subst hch
      have k0 := hcD 0 _ rfl
      have k1 := hcD 1 _ rfl
      have k2 := hcD 2 _ rfl
      have k3 := hcD 3 _ rfl
      have k4 := hcD 4 _ rfl
      have k5 := hcD 5 _ rfl
      have k6 := hcD 6 _ rfl
      have k7 := hcD 7 _ rfl
      have k8 := hcD 8 _ rfl
      rw [Nat.add_zero] at k0
      have HMf := Lib.hid (show (Tryz.prog.info? 27).map (·.size) = some 9 by kernel_rfl)
      clear hy hx hxe hcD hbD hrt l1 l2 hcz hyl hxT HX
      go_wp2_with fail
      obtain ⟨xc, hxc⟩ : ∃ xc : List Value, [.string nm, .int .i64 len, .int .i64 rate, .int .i64 ch, .bool lp, .int .i64 f, .int .i64 t, .int .i64 s0, .int .i64 f0] = xc := ⟨_, rfl⟩
      have Hx3 := Lib.hid (show xc[3]? = some (.int .i64 ch) by rw [← hxc]; rfl)
      have Hx9 := Lib.hid (show xc.length = 9 by rw [← hxc]; rfl)
      have HXc := Lib.hid (show (⟨nm, len, rate, ch, lp, f, t, s0, f0⟩ : MetaV).cells = xc from hxc)
      obtain ⟨w5, hw5⟩ : ∃ w5, (wa.alloc (.cells #[.string nm, .int .i64 len, .int .i64 rate, .int .i64 ch, .bool lp, .int .i64 f, .int .i64 t, .int .i64 s0, .int .i64 f0] 27)).alloc (.cells #[.string nm, .int .i64 len, .int .i64 rate, .int .i64 ch, .bool lp, .int .i64 f, .int .i64 t, .int .i64 s0, .int .i64 f0, .slice none 0 0] 149) = w5 := ⟨_, rfl⟩
      rw [hw5]
      have Xm := Lib.hid (show Blk w5 wa.heap.size 27 xc by rw [← hw5, ← hxc]; exact (Blk.new wa _ [.string nm, .int .i64 len, .int .i64 rate, .int .i64 ch, .bool lp, .int .i64 f, .int .i64 t, .int .i64 s0, .int .i64 f0]).alloc _)
      have Xr := Lib.hid (show Blk w5 (wa.heap.size + 1) 149 (xc ++ [.slice none 0 0]) by
        rw [← hw5, ← hxc]
        have := Blk.new (wa.alloc (.cells #[.string nm, .int .i64 len, .int .i64 rate, .int .i64 ch, .bool lp, .int .i64 f, .int .i64 t, .int .i64 s0, .int .i64 f0] 27)) 149 [.string nm, .int .i64 len, .int .i64 rate, .int .i64 ch, .bool lp, .int .i64 f, .int .i64 t, .int .i64 s0, .int .i64 f0, .slice none 0 0]
        rw [World.size_alloc] at this
        exact this)
      have E5 := Lib.hid (show Below wa.heap.size wa w5 by rw [← hw5]; exact bnext (bnew wa _) (bnew _ _))
      have hz5 : w5.heap.size = wa.heap.size + 2 := by rw [← hw5]; simp
      have hal : ∀ ad, (Value.slice A' m c').ownBlock = some ad → ad < wa.heap.size := fun ad h => by
        have h2 := HRw.out.own
        rw [HLm.out] at h2
        exact own_row_lt h2 ad h
      have Hal := Lib.hid hal
      obtain ⟨gm, hgm⟩ : ∃ gm, wa.heap.size = gm := ⟨_, rfl⟩
      have E5' := Lib.hid (show Below gm wa w5 by rw [← hgm]; exact E5.out)
      rw [hgm] at Xm Xr Hal hz5 ⊢
      clear hw5 hxc k0 k1 k2 k3 k4 k5 k6 k7 k8 hal
      refine (HFr.out _).mono ?_
      rintro e w6 ⟨rfl, hb6⟩
      have E6 := Lib.hid (bnext E5.out hb6)
      have X6 := Lib.hid (Xm.out.below hb6 Xm.out.lt)
      have Y6 := Lib.hid (Xr.out.below hb6 Xr.out.lt)
      have hz6 := hb6.size
      have Hz6 := Lib.hid (show gm + 2 ≤ w6.heap.size by omega)
      have R6 := Lib.hid (HRw.out.below E6.out)
      obtain ⟨K, hK⟩ : ∃ K, kOf D m = K := ⟨_, rfl⟩
      rw [hK] at HA2 HZs1 hkL
      have HLk := Lib.hid (fun j (hj : j ≤ T) => (show ((FR.drop K).take j).length = j by rw [List.length_take, List.length_drop]; omega))
      have HTk := Lib.hid (fun (j : Nat) f (h : FR[K + j]? = some f) => (show (FR.drop K).take (j + 1) = (FR.drop K).take j ++ [f] from by
        rw [List.take_add_one, List.getElem?_drop, h]
        rfl))
      have hTb : T ≤ 400000 := by have := HFl.out; omega
      clear hb6 hz6 hz5 hK Xm Xr E5 E5'
      go_wp2_with fail
      go_loopw [22] (fun i wx => ∃ (j : Nat) (A2 : Option Addr) (c2 : Nat) (vs : List Value), j ≤ T ∧ i = .int .i64 j ∧ Blk wx (gm + 1) 149 (xc ++ [.slice A2 j c2]) ∧ FsAt wx w6.heap.size A2 c2 ((FR.drop K).take j) vs ∧ w6.grownBy wx (some (gm + 1))) (fun i _ => T - (intOf i).toNat)
      case atStart => exact ⟨0, none, 0, [], by omega, rfl, Y6.out, FsAt.nil _ _, World.grownBy.refl _ _⟩
      case round =>
        obtain ⟨j, A2, c2, vs, hj, rfl, hbk, hfs, hgr⟩ := hrel
        have HY := Lib.hid hbk
        have HF := Lib.hid hfs
        have HG := Lib.hid hgr
        clear hbk hfs hgr
        obtain ⟨wx, rfl⟩ : ∃ wx, wx = wr := ⟨_, rfl⟩
        have hszx := HG.out.size
        by_cases hlj : j < T
        · have t3 : (j : Int) < (T : Int) := by omega
          have hch0 : 0 < ch := by omega
          obtain ⟨q, hq⟩ : ∃ q, j / ch = q := ⟨_, rfl⟩
          obtain ⟨c, hc⟩ : ∃ c, j % ch = c := ⟨_, rfl⟩
          have hcl : c < ch := by rw [← hc]; exact Nat.mod_lt _ hch0
          have hqc : q * ch + c = j := by rw [← hq, ← hc, Nat.mul_comm]; exact Nat.div_add_mod j ch
          have hql : q < cz := by
            rw [← hq]
            exact Nat.div_lt_of_lt_mul (by rw [Nat.mul_comm, ← hTc]; exact hlj)
          obtain ⟨hE, _, _, _, fr, hf, hfl, hsub, _⟩ := HA2.out q c hql hcl
          rw [hqc] at hf
          have HTk1 := Lib.hid (HTk.out j fr hf)
          have hrem : ((j : Int)).tmod (ch : Int) = (c : Int) := by rw [← hc]; rfl
          have hquo : ((j : Int)).tdiv (ch : Int) = (q : Int) := by rw [← hq]; rfl
          have hqj : q ≤ j := by rw [← hq]; exact Nat.div_le_self _ _
          have hwq : IntKind.i64.wrap (q : Int) = (q : Int) := IntWalk.i64_in _ (by omega)
          have hwc : IntKind.i64.wrap (c : Int) = (c : Int) := IntWalk.i64_in _ (by omega)
          have u1 : ((ch : Int) == 0) = false := beq_eq_false_iff_ne.2 (by omega)
          have Xx := Lib.hid (Blk.grown X6.out HG.out (fun e => by injection e with e; omega))
          have x3 := fun (z : GW wx) => (show z.1.cell? ⟨gm, 3, none⟩ = some (.int .i64 ch) from (z.2.cell (p := ⟨gm, 3, none⟩) Xx.out.lt).trans ((Xx.out.cell 3).trans Hx3.out))
          have HB1 := Lib.hid (fun W hW => HBy.out W m c q hW hE)
          rw [hsub] at HB1
          have Hfl2 := Lib.hid hfl
          have HWx := Lib.hid (show Below w.heap.size w wx from by
            have h1 := bnext (bnext B1.out Hbel.out) E6.out
            exact h1.grown HG.out (by have := B1.out.size; have := Hbel.out.size; have := Hz6.out; omega) (fun k hk => by injection hk with hk; have := B1.out.size; have := Hbel.out.size; omega))
          clear hq hc hqc hql hE hf hfl hsub hcl hqj
          go_wp2_with fail
          refine wp_region_calm_head 10 #[true, true, true, true, true, true, true, true, true, true, false, false, false, false, false, false] (by kernel_rfl) (by kernel_rfl) ?_
          simp only [List.take_succ_cons, List.take_zero]
          repeat (go_big_quiet_step (fail))
          refine wpQuiet_nil ?_
          intro w7 hw'
          have B7 := Lib.hid (gw_below hw')
          clear hw' x3
          change wpAny _ _ _ _ 6 _ _ _
          refine wpAny_ready (rs := [10]) (by kernel_rfl) (by simp) ?_
          refine AllReady.cons rfl (fun K hK => ?_) AllReady.nil
          go_simp
          go_wp2_with (go_at_call 21; refine (HB1.out w7 (bnext HWx.out B7.out)).mono ?_; rintro e w8 ⟨Ab, cb, rfl, hcb1, hcb2, hownb, hb8⟩)
          refine wpAny_take (i := 11) (v := ?_) rfl (by kernel_rfl) (by kernel_rfl) (by kernel_rfl) (fun _ _ _ h => h) (Or.inl ⟨by rfl, ?_⟩) ?_
          rotate_left
          · intro w; go_simp; try (with_reducible rfl)
          simp only [Act.put, List.getElem_toArray, List.getElem_cons_succ, List.getElem_cons_zero, List.setIfInBounds_toArray, List.set_cons_succ, List.set_cons_zero]
          refine wpAny_take (i := 12) (v := ?_) rfl (by kernel_rfl) (by kernel_rfl) (by kernel_rfl) (fun _ _ _ h => h) (Or.inl ⟨by rfl, ?_⟩) ?_
          rotate_left
          · intro w; go_simp; try (with_reducible rfl)
          simp only [Act.put, List.getElem_toArray, List.getElem_cons_succ, List.getElem_cons_zero, List.setIfInBounds_toArray, List.set_cons_succ, List.set_cons_zero]
          refine wpAny_take (i := 13) (v := ?_) rfl (by kernel_rfl) (by kernel_rfl) (by kernel_rfl) (fun _ _ _ h => h) (Or.inl ⟨by rfl, ?_⟩) ?_
          rotate_left
          · intro w; go_simp; try (with_reducible rfl)
          simp only [Act.put, List.getElem_toArray, List.getElem_cons_succ, List.getElem_cons_zero, List.setIfInBounds_toArray, List.set_cons_succ, List.set_cons_zero]
          refine wpAny_take (i := 14) (v := ?_) rfl (by kernel_rfl) (by kernel_rfl) (by kernel_rfl) (fun _ _ _ h => h) (Or.inl ⟨by rfl, ?_⟩) ?_
          rotate_left
          · intro w; go_simp; try (with_reducible rfl)
          simp only [Act.put, List.getElem_toArray, List.getElem_cons_succ, List.getElem_cons_zero, List.setIfInBounds_toArray, List.set_cons_succ, List.set_cons_zero]
          refine wpAny_take (i := 15) (v := ?_) rfl (by kernel_rfl) (by kernel_rfl) (by kernel_rfl) (fun _ _ _ h => h) (Or.inl ⟨by rfl, ?_⟩) ?_
          rotate_left
          · intro w; go_simp; try (with_reducible rfl)
          simp only [Act.put, List.getElem_toArray, List.getElem_cons_succ, List.getElem_cons_zero, List.setIfInBounds_toArray, List.set_cons_succ, List.set_cons_zero]
          refine wpAny_done (by kernel_rfl) ?_ _
          have B8 := Lib.hid (bnext B7.out hb8)
          have Y8 := Lib.hid (HY.out.below B8.out HY.out.lt)
          have F8 := Lib.hid (HF.out.below B8.out)
          have G8 := Lib.hid (grownBy_below HG.out B8.out)
          have hsz8 := B8.out.size
          have O8 := Lib.hid hownb
          have HLj := Lib.hid (HLk.out j hj)
          have own8 := F8.out.own
          rw [HLj.out] at own8
          have Own8 := Lib.hid own8
          have y9 := (Y8.out.cell 9).trans (show (xc ++ [.slice A2 j c2])[9]? = some (.slice A2 j c2) by rw [List.getElem?_append_right (by rw [Hx9.out]; exact Nat.le_refl _), Hx9.out]; rfl)
          clear hownb own8 hb8 HB1
          go_wp2_with (at_builtin; refine wpList_app _ rfl (.tmp 40) (.tmp 42) 23 rfl w6.heap.size 29 iB (.slice none 0 0) 1 24 Tryz.underlying23 hiB hzB0 hzB1 hzB2 rfl (by omega) (.slice A2 j c2) j vs rfl (Own8.out.alloc _) (w8.heap.size + 1) (some ⟨w8.heap.size, 0, none⟩) 1 1 [.slice Ab size cb] rfl rfl (Row.new w8 _ [.slice Ab size cb]) (fun u hu => by rw [List.mem_singleton] at hu; rw [hu]; rfl) (by omega) (by omega) (by simp; omega) ?_; intro A9 c9 w9 hown9 hgr9 hat9 hcc9; have X9 := Lib.hid (Blk.grown (Y8.out.alloc (.cells #[.slice Ab size cb] 29)) hgr9 (own_ne (Own8.out.alloc _) (Y8.out.alloc (.cells #[.slice Ab size cb] 29)) (by decide))); have z9 := (X9.out.cell 9).trans (show (xc ++ [.slice A2 j c2])[9]? = some (.slice A2 j c2) by rw [List.getElem?_append_right (by rw [Hx9.out]; exact Nat.le_refl _), Hx9.out]; rfl); have f9 := blk_free X9.out 9)
          go_roundw
          case rel =>
            have h1 := F8.out.below (bnew w8 (.cells #[.slice Ab size cb] 29))
            have h2 := h1.push (f := fr) (a := Ab) (k := cb) (by rw [Hfl2.out]; exact hcb1) hcb2 (by rw [Hfl2.out]; exact O8.out.alloc _) (A' := A9) (c' := c9) (by rw [HLj.out, Hfl2.out]; exact hown9) (by rw [HLj.out]; exact hgr9)
            rw [Hfl2.out, ← HTk1.out] at h2
            refine ⟨j + 1, A9, c9, vs ++ [.slice Ab size cb], by omega, by go_num, ?_, h2.blk X9.out (by decide) (by decide) (grownBy_setB (World.grownBy.refl _ _) _ _), ?_⟩
            · have h3 := Blk.set_ X9.out 9 (.slice A9 (j + 1) c9)
              rw [List.set_append_right _ _ (by rw [Hx9.out]; exact Nat.le_refl _), Hx9.out] at h3
              exact h3
            · exact grownBy_setB (grownBy_new (grownBy_allocR G8.out _) hgr9 (fun k hk => own_block_ge Own8.out k hk)) _ _
          case measure => first | (simp [intOf]; done) | (simp [intOf]; omega)
        · have hjT : j = T := by omega
          subst hjT
          have t3 : ¬ ((j : Int) < (j : Int)) := by omega
          have HLj := Lib.hid (HLk.out j hj)
          obtain ⟨p, hp⟩ : ∃ p : HRaw × RawV, (⟨⟨A2, c2⟩, ⟨⟨nm, len, rate, ch, lp, f, t, s0, f0⟩, (FR.drop K).take j⟩⟩ : HRaw × RawV) = p := ⟨_, rfl⟩
          have hpc : rawC p = xc ++ [.slice A2 j c2] := by
            have h1 : rawC p = (⟨nm, len, rate, ch, lp, f, t, s0, f0⟩ : MetaV).cells ++ [.slice A2 ((FR.drop K).take j).length c2] := by rw [← hp]; rfl
            rw [h1, HLj.out, HXc.out]
          have hp2 : p.2 = ⟨⟨nm, len, rate, ch, lp, f, t, s0, f0⟩, (FR.drop K).take j⟩ := by rw [← hp]
          have hpr : RawAt wx p := by
            rw [← hp]
            exact ⟨vs, HF.out.len, own_base HF.out.own (Nat.zero_le _), HF.out.each⟩
          have Hp2 := Lib.hid hp2
          have Hpr := Lib.hid hpr
          have own6 := R6.out.own
          rw [HLm.out] at own6
          have Own := Lib.hid (own6.kept HG.out (by
            rcases hq : (Value.slice A' m c').ownBlock with _ | k
            · exact .inl rfl
            · right
              intro e
              injection e with e
              have := Hal.out k hq
              omega))
          have HEa := Lib.hid (fun q hq => (R6.out.each q hq).blk Y6.out (by decide) (by decide) HG.out)
          have hpl : (rawC p).length = 10 := rawC_len p
          have Hp1 := Lib.hid (rawC_one p)
          have Hcs := Lib.hid (rawsC_snoc L p)
          rw [← hpc] at HY
          obtain ⟨pc, hpce⟩ : ∃ pc, rawC p = pc := ⟨_, rfl⟩
          rw [hpce] at HY Hp1 Hcs hpl
          have Hpl := Lib.hid hpl
          have Hps := Lib.hid (show pc.toArray.size = 10 by rw [List.size_toArray, hpl])
          have HFp := Lib.hid (show (Tryz.prog.info? 149).map (·.size) = some pc.toArray.size by rw [Hps.out]; exact inf_raw)
          have hm64 : m + 1 ≤ 65 := by omega
          clear hp hpc hp2 hpr own6 hpl hpce HF
          have hszx2 := HG.out.size
          have hB5 := Hbel.out.size
          have hE6 := E6.out.size
          go_wp2_with (first | (refine wpList_load_row_w rfl 149 (.tmp 6) rfl (gm + 1) rfl _ pc.toArray _ _ HY.out Tryz.underlying149 rfl HFp.out ?_) | (refine wpList_build_one rfl 145 149 (.tmp 47) rfl i0 z0 10 Tryz.underlying145 hi hz0 hi1 (by omega) (by omega) pc.toArray rfl Hps.out ?_) | (at_builtin; refine wpList_app _ rfl (.tmp 46) (.tmp 48) 145 rfl w1.heap.size 149 i0 z0 10 104 Tryz.underlying145 hi hz0 hi1 hi2 hz0s (by omega) (.slice A' m c') m (rawsC L) rfl (Own.out.alloc _) (wx.heap.size + 1) (some ⟨wx.heap.size, 0, none⟩) 1 1 pc rfl (by rw [Hpl.out]) (Row.new wx _ pc) Hp1.out (by omega) (by omega) (by simp; omega) ?_; intro A9 c9 w9 hown9 hgr9 hat9 hcc9))
          go_roundw
          case rel =>
            have hb9 : Below w1.heap.size w1 w9 := by
              have h1 := bnext Hbel.out E6.out
              have h2 := h1.grown HG.out (by omega) (fun k hk => by injection hk with hk; omega)
              exact (h2.alloc (by omega) (.cells pc.toArray 149)).grown hgr9 (by simp; omega) (fun k hk => own_block_ge Own.out k hk)
            refine ⟨m + 1, A9, c9, L ++ [p], by omega, by go_num, by simp [HLm.out], rfl, ?_, ⟨?_, fun q hq => ?_⟩, hb9⟩
            · rw [List.map_append, Hmap.out, HZs1.out]
              show _ ++ [p.2] = _
              rw [Hp2.out]
            · rw [show (L ++ [p]).length = m + 1 by simp [HLm.out], Hcs.out]
              exact hown9
            · have hfar := fun (q : HRaw × RawV) (h : RawAt wx q) => (h.below (bnew wx (.cells pc.toArray 149))).far (Own.out.alloc (.cells pc.toArray 149)) (by decide) (by decide) hgr9
              rcases List.mem_append.1 hq with h | h
              · exact hfar q (HEa.out q h)
              · rw [List.mem_singleton] at h; rw [h]; exact hfar p Hpr.out
          case measure => first | (simp [intOf]; done) | (simp [intOf]; omega)
    · have hmn : m = nD := by omega
      subst hmn
      have t1 : ¬ ((m : Int) < (m : Int)) := by omega
      go_wp2
      go_ret
      exact ⟨A', c', L, by rw [HLm.out]; rfl, Hmap.out, ⟨own_base HRw.out.own B1.out.size, HRw.out.each⟩, bnext B1.out Hbel.out⟩
end Go.Proofs.YtgcfkblmnpnogaaGreatDoor
