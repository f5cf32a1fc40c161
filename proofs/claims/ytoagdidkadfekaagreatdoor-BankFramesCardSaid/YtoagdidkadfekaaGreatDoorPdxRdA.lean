/- RdA. Conditions: as each theorem states. -/
import Derived.Test.YtoagdidkadfekaaGreatDoorPd27
import Derived.Test.YtoagdidkadfekaaGreatDoorPdxRdP

namespace Go.Proofs.YtoagdidkadfekaaGreatDoor
open Go.RowKit

/-- a reader in memory -/
def RdAt (W : World) (g : Nat) (A : Option Addr) (c n : Nat) (s : RdS) : Prop := W.heap[g]? = some (.cells #[.slice A n c, .int .i64 s.at_, .int .i64 s.er] 159 (0, 0))
theorem grown_next {a b c : World} {row : Option Nat} (h : a.grownBy b row) (k : b.grownBy c row) : a.grownBy c row :=
  ⟨k.os.trans h.os, k.tape.trans h.tape, k.output.trans h.output, Nat.le_trans h.size k.size, fun i hi hr => (k.block i (Nat.lt_of_lt_of_le hi h.size) hr).trans (h.block i hi hr)⟩
theorem grown_refl (a : World) (row : Option Nat) : a.grownBy a row := ⟨rfl, rfl, rfl, Nat.le_refl _, fun _ _ _ => rfl⟩
theorem grown_of {W W' : World} {row : Option Nat} (h : Below W.heap.size W W') : W.grownBy W' row :=
  ⟨h.os, h.tape, h.output, h.size, fun k hk _ => h.block k hk⟩
theorem grown_cell {W : World} (g o : Nat) (v : Value) : W.grownBy (W.setCell ⟨g, o, none⟩ v) (some g) := ⟨rfl, rfl, rfl, by simp, fun k _ hk => Below.heap_setCell _ _ _ _ (fun e => hk (by rw [e]))⟩
/-- bytes in a row that is not the reader's -/
def RBytesAt (W : World) (g : Nat) (A : Option Addr) (B : List Nat) : Prop := Row W W.heap.size A (u8s B) ∧ (B ≠ [] → ∀ ad, A = some ad → ad.block ≠ g)
theorem RBytesAt.grown {W W' : World} {g : Nat} {A : Option Addr} {B : List Nat} (h : RBytesAt W g A B) (hg : W.grownBy W' (some g)) : RBytesAt W' g A B := by
  refine ⟨fun i v hv => ?_, h.2⟩
  obtain ⟨b, off, ha, hb, hc⟩ := h.1 i v hv
  refine ⟨b, off, ha, Nat.lt_of_lt_of_le hb hg.size, ?_⟩
  rw [World.cell?_of_block (w := W) (hg.block b hb (fun he => by injection he with he; exact h.2 (fun hB => by rw [hB] at hv; simp [u8s] at hv) _ ha he))]
  exact hc

theorem bitsRead_any (A : Option Addr) (c n : Nat) (w : World) : Calls Tryz.prog 64 #[.slice A n c] w fun e w' =>
    e = .returned (.pointer (some ⟨w.heap.size, 0, none⟩)) ∧ RdAt w' w.heap.size A c n ⟨0, 0⟩ ∧ Below w.heap.size w w' := by
  unfold RdAt
  have H := Lib.hid (heap_alloc_new w (.cells #[.slice A n c, .int .i64 0, .int .i64 0] 159))
  have HB := Lib.hid (bnew w (.cells #[.slice A n c, .int .i64 0, .int .i64 0] 159))
  go_enter Tryz.func64, Tryz.ntmps64
  go_wp2
  go_ret
  exact ⟨rfl, H.out, HB.out⟩

set_option maxRecDepth 100000 in
theorem Fail_any (g : Nat) (A : Option Addr) (c n : Nat) (s : RdS) (er : Int) (w : World) (h : RdAt w g A c n s) :
    Calls Tryz.prog 66 #[.pointer (some ⟨g, 0, none⟩), .int .i64 er] w fun e w' => e = .returned (.tuple #[]) ∧ RdAt w' g A c n (failS s er) ∧ w.grownBy w' (some g) := by
  obtain ⟨a, e0⟩ := s
  unfold RdAt at *
  have H := Lib.hid h
  have c2 : w.cell? ⟨g, 2, none⟩ = some (.int .i64 e0) := cell_of_row w g 2 _ _ _ h
  have fz : w.frozen? ⟨g, 2, none⟩ = false := frozen_of_row w g 2 _ _ h
  clear h
  by_cases he : e0 = 0
  · subst he
    have t1 : ((0 : Int) == 0) = true := rfl
    go_enter Tryz.func66, Tryz.ntmps66
    go_wp2
    refine bodyPost_end (v := .tuple #[]) (results_none Tryz.results66 _ _ _) rfl ?_
    refine ⟨rfl, ?_, grown_cell _ _ _⟩
    rw [heap_setCell_same w g 2 _ _ _ H.out]
    rfl
  · have t1 : (e0 == 0) = false := beq_eq_false_iff_ne.2 he
    have HF := Lib.hid (show failS ⟨a, e0⟩ er = ⟨a, e0⟩ from if_neg he)
    rw [HF.out]
    clear he
    go_enter Tryz.func66, Tryz.ntmps66
    go_wp2
    refine bodyPost_end (v := .tuple #[]) (results_none Tryz.results66 _ _ _) rfl ?_
    exact ⟨rfl, H.out, grown_refl _ _⟩

def leftZ (n : Nat) (s : RdS) : Int := if s.er = 0 then 8 * (n : Int) - (s.at_ : Int) else 0
set_option maxRecDepth 100000 in
theorem Left_any (g : Nat) (A : Option Addr) (c n : Nat) (s : RdS) (w : World) (hn : n ≤ 1000000) (hs : s.at_ ≤ 8 * n) (h : RdAt w g A c n s) :
    Calls Tryz.prog 90 #[.pointer (some ⟨g, 0, none⟩)] w fun e w' => e = .returned (.int .i64 (leftZ n s)) ∧ Below w.heap.size w w' := by
  obtain ⟨a, e0⟩ := s
  unfold RdAt at h
  have c0 : w.cell? ⟨g, 0, none⟩ = some (.slice A n c) := cell_of_row w g 0 _ _ _ h
  have c1 : w.cell? ⟨g, 1, none⟩ = some (.int .i64 a) := cell_of_row w g 1 _ _ _ h
  have c2 : w.cell? ⟨g, 2, none⟩ = some (.int .i64 e0) := cell_of_row w g 2 _ _ _ h
  simp only at hs
  have H := Lib.hid h
  clear h
  by_cases he : e0 = 0
  · subst he
    have t1 : ((0 : Int) != 0) = false := rfl
    have HL := Lib.hid (show leftZ n ⟨a, 0⟩ = 8 * (n : Int) - (a : Int) from if_pos rfl)
    rw [HL.out]
    have x5 := gw_cells H.out
    go_enter Tryz.func90, Tryz.ntmps90
    go_wp2_with fail
    refine wp_region_calm (by kernel_rfl) (by kernel_rfl) ?_
    repeat (go_big_quiet_step (fail))
    refine wpQuiet_nil ?_
    intro w5 hw'
    have E5 := Lib.hid (gw_below hw')
    clear hw' x5
    go_wp2
    go_ret
    exact ⟨rfl, E5.out⟩
  · have t1 : (e0 != 0) = true := by simp [he]
    have HL := Lib.hid (show leftZ n ⟨a, e0⟩ = 0 from if_neg he)
    rw [HL.out]
    clear he
    go_enter Tryz.func90, Tryz.ntmps90
    go_wp2
    go_ret
    exact ⟨rfl, Below.refl _ _⟩
theorem valN_cut (B : List Nat) (i m : Nat) : valN (cutB B i (m + 1)) = 2 * valN (cutB B i m) + bitAt B (i + m) := by rw [cutB_succ, valN_snoc]

set_option maxRecDepth 100000 in
set_option maxHeartbeats 4000000 in
theorem Get_any (B : List Nat) (g : Nat) (A : Option Addr) (c : Nat) (s : RdS) (k : Nat) (w : World) (hk : k ≤ 57) (hn : B.length ≤ 1000000) (hb : ∀ x ∈ B, x < 256) (hs : InB B s) (hB : RBytesAt w g A B) (h : RdAt w g A c B.length s) :
    Calls Tryz.prog 65 #[.pointer (some ⟨g, 0, none⟩), .int .i64 k] w fun e w' => e = .returned (.int .u64 (getV B s k)) ∧ RdAt w' g A c B.length (getS B s k) ∧ w.grownBy w' (some g) := by
  obtain ⟨a, e0⟩ := s
  unfold InB at hs
  simp only at hs
  have H := Lib.hid h
  have c2 : w.cell? ⟨g, 2, none⟩ = some (.int .i64 e0) := cell_of_row w g 2 _ _ _ h
  have t2 : decide ((k : Int) < 0) = false := decide_eq_false (by omega)
  have t3 : decide ((57 : Int) < (k : Int)) = false := decide_eq_false (by omega)
  obtain ⟨n, hnn⟩ : ∃ n, B.length = n := ⟨_, rfl⟩
  rw [hnn] at hn hs H h ⊢
  have HN := Lib.hid hnn
  by_cases he : e0 = 0
  · subst he
    have HL := Lib.hid (Left_any g A c n ⟨a, 0⟩ w hn hs h)
    rw [show leftZ n ⟨a, 0⟩ = 8 * (n : Int) - (a : Int) from if_pos rfl] at HL
    have t1 : ((0 : Int) != 0) = false := rfl
    by_cases hr : 8 * n < a + k
    · have t4 : 8 * (n : Int) - (a : Int) < (k : Int) := by omega
      have HV := Lib.hid (show getV B ⟨a, 0⟩ k = 0 from if_pos (.inr (by rw [hnn]; exact hr)))
      have HS := Lib.hid (show getS B ⟨a, 0⟩ k = ⟨a, 2⟩ by unfold getS; rw [if_neg (by simp), if_pos (by rw [hnn]; exact hr)])
      rw [HV.out, HS.out]
      have fz : ∀ W, Below w.heap.size w W → W.frozen? ⟨g, 2, none⟩ = false := fun W hW => frozen_of_row W g 2 _ _ (hkeep h hW)
      have ck : ∀ W, Below w.heap.size w W → W.cell? ⟨g, 2, none⟩ = some (.int .i64 0) := fun W hW => cell_of_row W g 2 _ _ _ (hkeep h hW)
      have FZ := Lib.hid fz
      have CK := Lib.hid ck
      obtain ⟨K, hK⟩ : ∃ K : Int, 8 * (n : Int) - (a : Int) = K := ⟨_, rfl⟩
      rw [hK] at HL t4
      clear h fz ck hK
      go_enter Tryz.func65, Tryz.ntmps65
      go_wp2_with (go_at_call 90; fail)
      refine HL.out.mono ?_
      rintro e w1 ⟨rfl, hb1⟩
      have f1 := FZ.out w1 hb1
      have c1 := CK.out w1 hb1
      have B1 := Lib.hid hb1
      clear hb1
      go_wp2
      go_ret
      refine ⟨rfl, ?_, grown_next (grown_of B1.out) (grown_cell _ _ _)⟩
      show _ = _
      rw [heap_setCell_same w1 g 2 _ _ _ (hkeep H.out B1.out)]
      rfl
    · have t4 : ¬ (8 * (n : Int) - (a : Int) < (k : Int)) := by omega
      have HV := Lib.hid (show getV B ⟨a, 0⟩ k = valN (cutB B a k) from if_neg (by rw [hnn]; simp only [ne_eq, not_true_eq_false, false_or]; exact hr))
      have HS := Lib.hid (show getS B ⟨a, 0⟩ k = ⟨a + k, 0⟩ by unfold getS; rw [if_neg (by simp), if_neg (by rw [hnn]; exact hr)])
      rw [HV.out, HS.out]
      have HBy := Lib.hid hB
      have Hb := Lib.hid hb
      obtain ⟨K, hK⟩ : ∃ K : Int, 8 * (n : Int) - (a : Int) = K := ⟨_, rfl⟩
      rw [hK] at HL t4
      clear h hB hb hK
      go_enter Tryz.func65, Tryz.ntmps65
      go_wp2_with (go_at_call 90; fail)
      refine HL.out.mono ?_
      rintro e w1 ⟨rfl, hb1⟩
      have R1 := Lib.hid (show RdAt w1 g A c n ⟨a, 0⟩ from hkeep H.out hb1)
      have G1 := Lib.hid (show w.grownBy w1 (some g) from grown_of hb1)
      clear hb1 H c2
      go_wp2_with fail
      go_loopw [5, 31] (fun v i wr => ∃ m : Nat, m ≤ k ∧ i = .int .i64 m ∧ v = .int .u64 (valN (cutB B a m)) ∧ RdAt wr g A c n ⟨a + m, 0⟩ ∧ w.grownBy wr (some g)) (fun _ i _ => k - (intOf i).toNat)
      case atStart => exact ⟨0, by omega, rfl, rfl, R1.out, G1.out⟩
      case round =>
        obtain ⟨m, hm, rfl, rfl, hR, hG⟩ := hrel
        have HR := Lib.hid hR
        have HG := Lib.hid hG
        clear R1 G1 hG
        by_cases hlk : m < k
        · have t5 : (m : Int) < (k : Int) := by omega
          obtain ⟨q, hq⟩ : ∃ q, (a + m) / 8 = q := ⟨_, rfl⟩
          obtain ⟨p, hp⟩ : ∃ p, 7 - (a + m) % 8 = p := ⟨_, rfl⟩
          have hqn : q < n := by omega
          obtain ⟨x, hx⟩ := list_get (k := q) HN.out hqn
          have hx256 := Hb.out x (List.mem_of_getElem? hx)
          obtain ⟨b, off, rfl, hbl, hcell⟩ := (HBy.out.grown HG.out).1 q (.int .u8 (x : Int)) (u8s_get hx)
          have HV1 := Lib.hid (valN_cut B a m)
          have hbit : bitAt B (a + m) = x / 2 ^ p % 2 := by unfold bitAt; rw [hq, hp, List.getD_eq_getElem?_getD, hx]; rfl
          rw [hbit] at HV1
          have hv57 := valN_lt m (cutB B a m) (cutB_len _ _ _) (cutB_bin _ _ _)
          have hv2 : 2 ^ m ≤ 2 ^ 56 := Nat.pow_le_pow_right (by decide) (by omega)
          obtain ⟨V, hV⟩ : ∃ V, valN (cutB B a m) = V := ⟨_, rfl⟩
          rw [hV] at HV1 hv57
          rw [hV]
          obtain ⟨y, hy⟩ : ∃ y, x / 2 ^ p % 2 = y := ⟨_, rfl⟩
          rw [hy] at HV1
          have hy1 : y ≤ 1 := by omega
          have hxd : (x : Int) / 2 ^ p = ((x / 2 ^ p : Nat) : Int) := by rw [show (2 : Int) ^ p = ((2 ^ p : Nat) : Int) by rw [Int.natCast_pow]; rfl]; exact (Int.natCast_ediv x (2 ^ p)).symm
          have hxle : x / 2 ^ p ≤ x := Nat.div_le_self _ _
          have hand : bits .and .u8 ((x : Int) / 2 ^ p) 1 = (y : Int) := by
            rw [hxd, show (1 : Int) = 2 ^ 1 - 1 from rfl, bits_mask .u8 8 (by decide) wraps_u8 1 (by decide) _ (Int.natCast_nonneg _) (by omega)]
            omega
          have hor : bits .or .u64 ((V : Int) * 2) (y : Int) = ((2 * V + y : Nat) : Int) := by
            have h0 : (V : Int) * 2 = ((2 * V : Nat) : Int) := by omega
            rw [h0, u64_or_nat _ _ (by omega) (by omega)]
            congr 1
            rcases Nat.lt_or_ge y 1 with h | h
            · have : y = 0 := by omega
              subst this; simp
            · have : y = 1 := by omega
              subst this
              have := or_add (x := 2 * V) (s := 0) (b := 1) (by omega) (by omega)
              simpa using this
          have hw1 : IntKind.u64.wrap ((V : Int) * 2) = (V : Int) * 2 := by rw [IntKind.wrap_u64]; omega
          have hw2 : IntKind.u64.wrap (y : Int) = (y : Int) := by rw [IntKind.wrap_u64]; omega
          have u1 : ((a + m : Nat) : Int) / 8 = (q : Int) := by omega
          have u2 : (7 : Int) - ((a + m : Nat) : Int) % 8 = (p : Int) := by omega
          have u3 : (0 : Int) ≤ (q : Int) := by omega
          have u4 : (q : Int) < (n : Int) := by omega
          have u5 : (0 : Int) ≤ (p : Int) := by omega
          have u6 : (p : Int) ≤ 8 := by omega
          have x5 := gw_cells (show wr.heap[g]? = some (.cells #[.slice (some ⟨b, off, none⟩) n c, .int .i64 ((a + m : Nat) : Int), .int .i64 0] 159 (0, 0)) from HR.out)
          have y5 := fun (x : GW wr) => (gw_cell x (p := ⟨b, off + q, none⟩) hbl).trans hcell
          obtain ⟨am, ham⟩ : ∃ am, a + m = am := ⟨_, rfl⟩
          have Ham := Lib.hid ham
          rw [ham] at u1 u2 x5
          clear hx hcell hR hbit hy hV hq hp ham hxd hxle
          go_wp2_with fail
          refine wp_region_calm (by kernel_rfl) (by kernel_rfl) ?_
          repeat (go_big_quiet_step (fail))
          refine wpQuiet_nil ?_
          intro w5 hw'
          have hb5 := gw_below hw'
          have R5 := Lib.hid (show RdAt w5 g (some ⟨b, off, none⟩) c n ⟨a + m, 0⟩ from hkeep HR.out hb5)
          have G5 := Lib.hid (grown_next HG.out (grown_of hb5))
          have d1 : w5.cell? ⟨g, 1, none⟩ = some (.int .i64 (am : Int)) := by rw [← Ham.out]; exact cell_of_row w5 g 1 _ _ _ R5.out
          have z1 : w5.frozen? ⟨g, 1, none⟩ = false := frozen_of_row w5 g 1 _ _ R5.out
          clear hw' hb5 x5 y5
          go_wp2
          go_roundw
          case rel =>
            refine ⟨m + 1, by omega, by go_num, by rw [HV1.out]; exact congrArg _ (by omega), ?_, grown_next G5.out (grown_cell _ _ _)⟩
            show _ = _
            rw [heap_setCell_same w5 g 1 _ _ _ R5.out, ← Ham.out]
            simp
            omega
          case measure => simp [intOf]; omega
        · have hmk : m = k := by omega
          subst hmk
          have t5 : ¬ ((m : Int) < (m : Int)) := by omega
          go_wp2
          go_ret
          exact ⟨rfl, HR.out, HG.out⟩
  · have t1 : (e0 != 0) = true := by simp [he]
    have HV := Lib.hid (show getV B ⟨a, e0⟩ k = 0 from if_pos (.inl he))
    have HS := Lib.hid (show getS B ⟨a, e0⟩ k = ⟨a, e0⟩ from if_pos he)
    rw [HV.out, HS.out]
    clear he h
    go_enter Tryz.func65, Tryz.ntmps65
    go_wp2
    go_ret
    exact ⟨rfl, H.out, grown_refl _ _⟩
end Go.Proofs.YtoagdidkadfekaaGreatDoor
