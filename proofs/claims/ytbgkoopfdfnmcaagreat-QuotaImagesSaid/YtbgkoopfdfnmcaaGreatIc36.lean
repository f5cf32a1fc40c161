/- WrB, WrC. Conditions: as each theorem states. -/
import Derived.Laws.CopyOwn
import Derived.Deep.OwnRows
import Derived.Test.YtbgkoopfdfnmcaaGreatIc24
import Derived.Test.YtbgkoopfdfnmcaaGreatIc35

namespace Go.Proofs.YtbgkoopfdfnmcaaGreat
open Go.RowKit

/-- has a number room in so many bits? -/
def fitsZ (v : Int) (k : Nat) : Bool := decide (widthZ v ≤ k)
theorem fits_zero (v : Int) : fitsZ v 0 = decide (v = 0) := by
  unfold fitsZ widthZ
  rw [Bool.eq_iff_iff, decide_eq_true_eq, decide_eq_true_eq]
  split
  · rename_i h; simp [h]
  · rename_i h; simp [h]
theorem fits_succ (v : Int) (k : Nat) : fitsZ v (k + 1) = (decide (-(2 ^ k) ≤ v) && decide (v < 2 ^ k)) := by
  have e : (2 : Int) ^ k = ((2 ^ k : Nat) : Int) := by rw [Int.natCast_pow]; rfl
  unfold fitsZ
  rw [Bool.eq_iff_iff, decide_eq_true_eq, Bool.and_eq_true, decide_eq_true_eq, decide_eq_true_eq, e]
  exact ⟨fun h => widthZ_bd h, fun h => widthZ_le h.1 h.2⟩

set_option maxRecDepth 100000 in
theorem Fits_any (v : Int) (k : Nat) (w : World) (hk : k ≤ 57) :
    Calls Tryz.prog 143 #[.int .i64 v, .int .i64 k] w fun e w' => e = .returned (.bool (fitsZ v k)) ∧ w = w' := by
  cases k with
  | zero =>
    rw [fits_zero]
    have t1 : ((0 : Nat) : Int) ≤ 0 := by omega
    by_cases h : v = 0
    · have t2 : (v == 0) = true := beq_iff_eq.2 h
      go_enter Tryz.func143, Tryz.ntmps143
      go_wp2
      go_ret
      exact ⟨ret_bool (by rw [h]; rfl), rfl⟩
    · have t2 : (v == 0) = false := beq_eq_false_iff_ne.2 h
      have H := Lib.hid (decide_eq_false h)
      clear h
      go_enter Tryz.func143, Tryz.ntmps143
      go_wp2
      go_ret
      exact ⟨ret_bool H.out.symm, rfl⟩
  | succ k =>
    have HF := Lib.hid (fits_succ v k)
    have hp : (2 : Int) ^ k ≤ 2 ^ 56 := by
      rw [show (2 : Int) ^ k = ((2 ^ k : Nat) : Int) by rw [Int.natCast_pow]; rfl]
      exact Int.ofNat_le.2 (Nat.pow_le_pow_right (by decide) (by omega))
    have hp0 : (0 : Int) < 2 ^ k := Int.pow_pos (by decide)
    have hm1 : IntKind.i64.wrap (-1 * 2 ^ k) = -(2 ^ k) := by rw [Int.neg_one_mul]; exact IntWalk.i64_in _ (by omega)
    have hm2 : IntKind.i64.wrap (1 * 2 ^ k) = 2 ^ k := by rw [Int.one_mul]; exact IntWalk.i64_in _ (by omega)
    have hm3 : IntKind.i64.wrap (-(2 ^ k)) = -(2 ^ k) := IntWalk.i64_in _ (by omega)
    have hm4 : IntKind.i64.wrap (2 ^ k) = 2 ^ k := IntWalk.i64_in _ (by omega)
    obtain ⟨P, hP⟩ : ∃ P : Int, (2 : Int) ^ k = P := ⟨_, rfl⟩
    have t1 : ¬ (((k + 1 : Nat) : Int) ≤ 0) := by omega
    have t2 : decide ((63 : Int) < ((k + 1 : Nat) : Int)) = false := decide_eq_false (by omega)
    have t3 : ((k + 1 : Nat) : Int) - 1 = (k : Int) := by omega
    have t4 : (0 : Int) ≤ (k : Int) := by omega
    have t5 : (k : Int) ≤ 64 := by omega
    rw [hP] at HF hm1 hm2 hm3 hm4 hp hp0
    generalize hK : ((k + 1 : Nat) : Int) = K at *
    have t6 : ¬ (63 < K) := by omega
    have t7 : ¬ (K ≤ 0) := by omega
    by_cases h1 : -P ≤ v
    · have d1 : decide (-P ≤ v) = true := decide_eq_true h1
      go_enter Tryz.func143, Tryz.ntmps143
      go_wp2
      go_ret
      exact ⟨ret_bool (by rw [HF.out, d1]; simp), rfl⟩
    · have d1 : decide (-P ≤ v) = false := decide_eq_false h1
      go_enter Tryz.func143, Tryz.ntmps143
      go_wp2
      go_ret
      exact ⟨ret_bool (by rw [HF.out, d1]; simp), rfl⟩
theorem twos_bits (v : Int) {k : Nat} (hk : k ≤ 57) : bits .and .u64 (IntKind.u64.wrap v) (2 ^ k - 1) = (twos v k : Int) := by
  rw [IntKind.wrap_u64, bits_mask .u64 64 (by decide) wraps_u64 k (by omega) (v % 18446744073709551616) (by omega) (by omega)]
  have hd : (2 : Int) ^ k ∣ 18446744073709551616 := by
    refine ⟨2 ^ (64 - k), ?_⟩
    rw [← Int.pow_add, show k + (64 - k) = 64 by omega]; rfl
  rw [Int.emod_emod_of_dvd _ hd]
  have hp : (0 : Int) < 2 ^ k := Int.pow_pos (by decide)
  unfold twos
  rw [Int.toNat_of_nonneg (Int.emod_nonneg _ (by omega))]

set_option maxRecDepth 100000 in
theorem Signed_any (g : Nat) (v : Int) (k : Nat) (L : List Nat) (w : World) (hk : k ≤ 57) (hv : fitsZ v k = true) (hL : L.length + k ≤ 100000) (hw : WrAt w g L) :
    Calls Tryz.prog 129 #[.pointer (some ⟨g, 0, none⟩), .int .i64 v, .int .i64 k] w fun e w' => e = .returned (.tuple #[]) ∧ WrAt w' g (L ++ bitsOf (twos v k) k) ∧ Keeps g w w' ∧ Below g w w' := by
  have HF := Lib.hid (fun W => Fits_any v k W hk)
  rw [hv] at HF
  have HP := Lib.hid (Put_any g (twos v k) k L w hk (twos_lt v k) hL hw)
  have t1 : decide ((k : Int) < 0) = false := decide_eq_false (by omega)
  have t2 : decide ((57 : Int) < (k : Int)) = false := decide_eq_false (by omega)
  have t0 : (0 : Int) ≤ (k : Int) := by omega
  have t3 : (k : Int) ≤ 64 := by omega
  have hA := twos_bits v hk
  have hp : (2 : Int) ^ k ≤ 2 ^ 57 := by
    rw [show (2 : Int) ^ k = ((2 ^ k : Nat) : Int) by rw [Int.natCast_pow]; rfl]
    exact Int.ofNat_le.2 (Nat.pow_le_pow_right (by decide) (by omega))
  have hp0 : (0 : Int) < 2 ^ k := Int.pow_pos (by decide)
  have hm1 : IntKind.u64.wrap (1 * 2 ^ k) = 2 ^ k := by rw [Int.one_mul, IntKind.wrap_u64]; omega
  have hm2 : IntKind.u64.wrap (2 ^ k - 1) = 2 ^ k - 1 := by rw [IntKind.wrap_u64]; omega
  have hm3 : IntKind.u64.wrap (2 ^ k) = 2 ^ k := by rw [IntKind.wrap_u64]; omega
  obtain ⟨U, hU⟩ : ∃ U : Int, (2 : Int) ^ k = U := ⟨_, rfl⟩
  rw [hU] at hA hm1 hm2 hm3 hp hp0
  clear hw hv
  go_enter Tryz.func129, Tryz.ntmps129
  go_wp2_with (first | (go_at_call 143; refine (HF.out _).mono ?_; rintro e w1 ⟨rfl, rfl⟩) | (go_at_call 128; fail))
  refine HP.out.mono ?_
  rintro e w1 ⟨rfl, hW, hkp, hb⟩
  go_wp2
  refine bodyPost_end (v := .tuple #[]) (results_none Tryz.results129 _ _ _) rfl ?_
  exact ⟨rfl, hW, hkp, hb⟩

theorem packN_zero_len (L : List Nat) (z : Nat) : (u8s (packN L ++ List.replicate z 0)).length = (L.length + 7) / 8 + z := by
  rw [u8s_len, List.length_append, packN_len, List.length_replicate]
set_option maxRecDepth 100000 in
theorem WBytes_any (g size : Nat) (L : List Nat) (w : World) (h0 : 0 < L.length) (hs : (L.length + 7) / 8 ≤ size) (h1 : size ≤ 100000) (hL : L.length ≤ 100000) (hw : WrAt w g L) :
    Calls Tryz.prog 130 #[.pointer (some ⟨g, 0, none⟩), .int .i64 size] w fun e w' => e = .returned (.tuple #[.slice (some ⟨w.heap.size, 0, none⟩) size size, .int .i64 0]) ∧
      w' = w.alloc (.cells (u8s (packN L ++ List.replicate (size - (L.length + 7) / 8) 0)).toArray 5) := by
  obtain ⟨_, s, hg, hown⟩ := hw
  obtain ⟨gg, cc, rfl, _, hgs⟩ := hown.form (by omega)
  have hf : u8s (packN L ++ List.replicate (size - (L.length + 7) / 8) 0) = u8s (packN L) ++ List.replicate (size - (L.length + 7) / 8) (.int .u8 0) := by
    unfold u8s; rw [List.map_append, List.map_replicate]; rfl
  rw [hf]
  have hl : (u8s (packN L)).length = (L.length + 7) / 8 := by rw [u8s_len, packN_len]
  have h8 := u8s_one (packN L)
  obtain ⟨n, hn⟩ : ∃ n, (L.length + 7) / 8 = n := ⟨_, rfl⟩
  rw [hn] at hs hown hg hl ⊢
  have c0 : w.cell? ⟨g, 0, none⟩ = some (.slice (some ⟨gg, 0, none⟩) n cc) := cell_of_row w g 0 _ _ _ hg
  have c2 : w.cell? ⟨g, 2, none⟩ = some (.int .i64 0) := cell_of_row w g 2 _ _ _ hg
  have hsrc := Lib.hid (fun (j : Nat) (v : Value) (hv : (u8s (packN L))[j]? = some v) (o : Obj) => (show (w.alloc o).cell? ((⟨gg, 0, none⟩ : Addr).add j) = some v by
    rw [show (⟨gg, 0, none⟩ : Addr).add j = ⟨gg, 0 + j, none⟩ by unfold Addr.add; split <;> simp_all]
    refine cell_alloc ?_ o
    rw [Nat.zero_add, hown.cellAt j (by have := (List.getElem?_eq_some_iff.1 hv).1; omega)]
    exact hv))
  have Hg := Lib.hid hg
  have gz := hlt hg
  generalize u8s (packN L) = ps at *
  have t1 : ¬ ((size : Int) < 0) := by omega
  have t2 : ¬ ((size : Int) < (n : Int)) := by omega
  have hnh : 0 < n := by omega
  obtain ⟨i0, hi, hz0, hz1, hz2⟩ : ∃ i, Tryz.prog.info? 5 = some i ∧ i.zero = some (.int .u8 0) ∧ i.size = 1 ∧ i.bytes = 1 := by
    have := inf_u8
    cases h : Tryz.prog.info? 5 with
    | none => rw [h] at this; cases this
    | some i => rw [h] at this; simp at this; exact ⟨i, rfl, this.1, this.2.1, this.2.2⟩
  have Hms := Lib.hid (show (madeCells #[Value.int .u8 0] size).toList = List.replicate size (.int .u8 0) from toList_madeCells_one _ _)
  obtain ⟨mc, hmc⟩ : ∃ mc, madeCells #[Value.int .u8 0] size = mc := ⟨_, rfl⟩
  rw [hmc] at Hms
  have Hl := Lib.hid hl
  have hd0 := cell_alloc c0 (.cells mc 5)
  clear hown hg hn h0 hl hf hgs
  go_enter Tryz.func130, Tryz.ntmps130
  go_wp2_with (first | (refine wpList_make_row w rfl (.tmp 28) (.tmp 28) 45 rfl 5 i0 (.int .u8 0) Tryz.underlying45 hi hz0 hz1 rfl .i64 .i64 size rfl rfl (by rw [hz2]; omega) (by omega) ?_; rw [hmc]) | (refine wpList_copy_own rfl (.tmp 30) (.tmp 34) 45 45 rfl 5 Tryz.underlying45 (by rw [hi]; simp [hz1]) w.heap.size 0 size size ⟨gg, 0, none⟩ n cc rfl rfl mc 5 (heap_alloc_new w _) ps (by rw [Hl.out]; exact (Nat.min_eq_left hs).symm) (fun j v hv => hsrc.out j v hv _) (by rw [Hl.out, ← Array.length_toList, Hms.out, List.length_replicate]; omega) h8 ?_; rw [World.setRow_alloc_new]))
  refine bodyPost_ret (results_tmp2 Tryz.results130 _ _ _) rfl ?_
  refine ⟨rfl, ?_⟩
  rw [Hms.out, Hl.out, List.drop_replicate]
end Go.Proofs.YtbgkoopfdfnmcaaGreat

namespace Go.Proofs.YtbgkoopfdfnmcaaGreat
open Go.RowKit

/-- tones that may be, as far as the first so many -/
def TonesR (ts : List ToneV) : Prop := (∀ t ∈ ts, 0 ≤ t.idx ∧ t.idx < 16 ∧ -8388608 ≤ t.val ∧ t.val < 8388608) ∧ ts.Pairwise fun x y => x.idx < y.idx
theorem fits_24 {v : Int} (h1 : -8388608 ≤ v) (h2 : v < 8388608) : fitsZ v 24 = true := by
  rw [fits_succ, decide_eq_true (show -(2 ^ 23) ≤ v by omega), decide_eq_true (show v < 2 ^ 23 by omega)]; rfl

set_option maxRecDepth 100000 in
set_option maxHeartbeats 4000000 in
theorem rightTones_ok (ts : List ToneV) (A : Option Addr) (c : Nat) (w : World) (hr : Row w w.heap.size A (toneCells ts)) (ht : TonesR ts) (hl : ts.length ≤ 2) :
    Calls Tryz.prog 142 #[.slice A ts.length c] w fun e w' => e = .returned (.bool true) ∧ Below w.heap.size w w' := by
  obtain ⟨n, hn⟩ : ∃ n, ts.length = n := ⟨_, rfl⟩
  have Hr := Lib.hid hr
  have Hti := Lib.hid ht.1
  have Hinc := Lib.hid ht.2
  rw [hn] at hl ⊢
  have Hn := Lib.hid hn
  clear hr ht hn
  go_enter Tryz.func142, Tryz.ntmps142
  go_wp2
  go_loopw [7] (fun i wr => ∃ m : Nat, m ≤ n ∧ i = .int .i64 m ∧ Below w.heap.size w wr) (fun i _ => n - (intOf i).toNat)
  case atStart => exact ⟨0, by omega, rfl, Below.refl _ _⟩
  case round =>
    obtain ⟨m, hm, rfl, hbel⟩ := hrel
    have Hbel := Lib.hid hbel
    clear hbel
    by_cases hlk : m < n
    · obtain ⟨t, ht⟩ := list_get (k := m) Hn.out hlk
      have htv := Hti.out t (List.mem_of_getElem? ht)
      obtain ⟨g, off, hA, hg, k0, k1⟩ := tone_row Hr.out ht
      have c0 := (Hbel.out.cell (p := ⟨g, off + m * 2, none⟩) hg).trans k0
      have c1 := (Hbel.out.cell (p := ⟨g, off + m * 2 + 1, none⟩) hg).trans k1
      have HP := Lib.hid (fun (j : Nat) (u : ToneV) (hj : m = j + 1) (hu : ts[j]? = some u) => (show u.idx < t.idx by
        obtain ⟨h1, e1⟩ := List.getElem?_eq_some_iff.1 hu
        obtain ⟨h2, e2⟩ := List.getElem?_eq_some_iff.1 ht
        have := List.pairwise_iff_getElem.1 Hinc.out j m h1 h2 (by omega)
        rwa [e1, e2] at this))
      subst hA
      have HRow := Lib.hid (fun (j : Nat) (u : ToneV) (hu : ts[j]? = some u) => (show ∃ b o, some (⟨g, off, none⟩ : Addr) = some ⟨b, o, none⟩ ∧ b < w.heap.size ∧ w.cell? ⟨b, o + j * 2, none⟩ = some (.int .i64 u.idx) ∧ w.cell? ⟨b, o + j * 2 + 1, none⟩ = some (.int .i64 u.val) from tone_row Hr.out hu))
      obtain ⟨ix, vl⟩ := t
      obtain ⟨v1, v2, v3, v4⟩ := htv
      simp only at c0 c1 v1 v2 v3 v4 HP
      clear ht k0 k1
      have HF := Lib.hid (show ∀ W, Calls Tryz.prog 143 #[.int .i64 vl, .int .i64 24] W fun e w' => e = .returned (.bool true) ∧ W = w' from fun W => (Fits_any vl 24 W (by omega)).mono fun e w' ⟨he, hw⟩ => ⟨by rw [he, fits_24 v3 v4], hw⟩)
      have t1 : (m : Int) < (n : Int) := by omega
      have t2 : decide (ix < 0) = false := decide_eq_false (by omega)
      have t3 : decide ((16 : Int) ≤ ix) = false := decide_eq_false (by omega)
      have hN1 := Blk.new wr 118 [.int .i64 ix, .int .i64 vl]
      have hy5 := gw_blk hN1
      have HB2 := Lib.hid (bnext Hbel.out (bnew wr (.cells #[.int .i64 ix, .int .i64 vl] 118)))
      by_cases hm0 : 0 < m
      · obtain ⟨j, rfl⟩ : ∃ j, m = j + 1 := ⟨m - 1, by omega⟩
        obtain ⟨u, hu⟩ := list_get (k := j) Hn.out (by omega)
        have hlt2 := HP.out j u rfl hu
        obtain ⟨b, o, hA, hb, k0, k1⟩ := HRow.out j u hu
        injection hA with hA
        injection hA with e1 e2
        subst e1 e2
        have hk := fun (x : GW (wr.alloc (.cells #[.int .i64 ix, .int .i64 vl] 118))) => (show x.1.cell? ⟨g, off + j * 2, none⟩ = some (.int .i64 u.idx) from (HB2.out.trans (x.2.mono HB2.out.size)).cell (p := ⟨g, off + j * 2, none⟩) hb |>.trans k0)
        obtain ⟨ui, uv⟩ := u
        simp only at hk hlt2
        have t4 : decide ((0 : Int) < ((j + 1 : Nat) : Int)) = true := decide_eq_true (by omega)
        have t5 : decide (ix ≤ ui) = false := decide_eq_false (by omega)
        have t6 : ((j + 1 : Nat) : Int) - 1 = (j : Int) := by omega
        have t7 : (j : Int) < (n : Int) := by omega
        have t8 : (0 : Int) ≤ (j : Int) := by omega
        have t9 : (0 : Int) < (j : Int) + 1 := by omega
        clear hu k0 k1 hm0
        go_wp2_with fail
        refine wp_region_calm (by kernel_rfl) (by kernel_rfl) ?_
        repeat (go_big_quiet_step ((go_at_call 143; exact calm_same (HF.out _))))
        refine wpQuiet_nil ?_
        intro w5 hw'
        have hb5 := gw_below hw'
        have HB5 := Lib.hid (bnext HB2.out hb5)
        clear hw' hb5 hy5 hk
        go_wp2
        go_roundw
        case rel => exact ⟨j + 1 + 1, by omega, by go_num, HB5.out⟩
        case measure => simp [intOf]; omega
      · have hm00 : m = 0 := by omega
        subst hm00
        simp only [Nat.zero_mul, Nat.add_zero] at c0 c1
        have t4 : decide ((0 : Int) < ((0 : Nat) : Int)) = false := decide_eq_false (by omega)
        clear hm0
        go_wp2_with fail
        refine wp_region_calm (by kernel_rfl) (by kernel_rfl) ?_
        repeat (go_big_quiet_step ((go_at_call 143; exact calm_same (HF.out _))))
        refine wpQuiet_nil ?_
        intro w5 hw'
        have hb5 := gw_below hw'
        have HB5 := Lib.hid (bnext HB2.out hb5)
        clear hw' hb5 hy5
        go_wp2
        go_roundw
        case rel => exact ⟨0 + 1, by omega, by go_num, HB5.out⟩
        case measure => simp [intOf]; omega
    · have hmn : m = n := by omega
      subst hmn
      have t1 : ¬ ((m : Int) < (m : Int)) := by omega
      have t2 : decide ((m : Int) ≤ 2) = true := decide_eq_true (by omega)
      go_wp2
      go_ret
      exact ⟨rfl, Hbel.out⟩
end Go.Proofs.YtbgkoopfdfnmcaaGreat
