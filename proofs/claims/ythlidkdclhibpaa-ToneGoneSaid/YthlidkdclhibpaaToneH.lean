/- The law ToneFinds; conditions: as each theorem states. -/
import Derived.Test.YthlidkdclhibpaaToneG
namespace Go.Proofs.Ythlidkdclhibpaa
open Go.RowKit

def pickT (b : List Int) (k : Nat) : Bool := isTone b (k : Int) && decide (aheadZ b k ≤ 1)
def preT (b : List Int) (m : Nat) : List ToneV := ((List.range m).filter (pickT b)).map (toneAt b)
theorem preT_all (b : List Int) : preT b 16 = findT b := rfl
theorem preT_succ (b : List Int) (m : Nat) : preT b (m + 1) = preT b m ++ if pickT b m = true then [toneAt b m] else [] := by
  unfold preT
  rw [List.range_succ, List.filter_append, List.map_append]
  congr 1
  cases h : pickT b m <;> simp [h]
theorem preT_len (b : List Int) (m : Nat) : (preT b m).length ≤ m := by
  unfold preT
  have := List.length_filter_le (pickT b) (List.range m)
  simpa using this
theorem preT_prefix (b : List Int) (k : Nat) : ∀ (m : Nat), ∃ r, preT b (k + m) = preT b k ++ r
  | 0 => ⟨[], by simp⟩
  | m + 1 => by
    obtain ⟨r, hr⟩ := preT_prefix b k m
    exact ⟨r ++ _, by rw [← Nat.add_assoc, preT_succ, hr, List.append_assoc]⟩
theorem preT_at (b : List Int) (k : Nat) (hk : k < 16) (hp : pickT b k = true) : (findT b)[(preT b k).length]? = some (toneAt b k) := by
  obtain ⟨r, hr⟩ := preT_prefix b (k + 1) (15 - k)
  rw [← preT_all, show 16 = k + 1 + (15 - k) by omega, hr, preT_succ, hp]
  simp
theorem tone_row {w : World} {B : Nat} {A : Option Addr} {ts : List ToneV} (hr : Row w B A (toneCells ts)) {k : Nat} {t : ToneV} (h : ts[k]? = some t) :
    ∃ b off, A = some ⟨b, off, none⟩ ∧ b < B ∧ w.cell? ⟨b, off + k * 2, none⟩ = some (.int .i64 t.idx) ∧ w.cell? ⟨b, off + k * 2 + 1, none⟩ = some (.int .i64 t.val) := by
  have h0 : (toneCells ts)[k * 2 + 0]? = some (.int .i64 t.idx) := by
    unfold toneCells
    rw [flat_get 2 (ts.map ToneV.cells) (fun cs hcs => by obtain ⟨z, _, rfl⟩ := List.mem_map.1 hcs; rfl) k 0 (by omega)]
    simp [h, ToneV.cells]
  have h1 : (toneCells ts)[k * 2 + 1]? = some (.int .i64 t.val) := by
    unfold toneCells
    rw [flat_get 2 (ts.map ToneV.cells) (fun cs hcs => by obtain ⟨z, _, rfl⟩ := List.mem_map.1 hcs; rfl) k 1 (by omega)]
    simp [h, ToneV.cells]
  obtain ⟨b, off, hA, hb, hc⟩ := hr _ _ h0
  obtain ⟨b', off', hA', _, hc'⟩ := hr _ _ h1
  rw [hA] at hA'
  injection hA' with hA'
  injection hA' with e1 e2
  subst e1 e2
  exact ⟨b, off, hA, hb, by simpa using hc, by rw [Nat.add_assoc]; exact hc'⟩

set_option maxRecDepth 100000 in
set_option maxHeartbeats 4000000 in
theorem ToneFinds_walk (b : List Int) (w : World) (hb : b.length = 16) :
    Calls Try.prog 11 #[blockV b] w fun e w' => e = .returned (.bool true) ∧ Below w.heap.size w w' := by
  have HN := Lib.hid (fun W => lawnear_any b W hb)
  obtain ⟨N, hN⟩ : ∃ N, b.all nearI = N := ⟨_, rfl⟩
  rw [hN] at HN
  have H1 := Lib.hid (fun (h : N = true) W => toneFind_any b W hb (near_big (hN.trans h)))
  have H2 := Lib.hid (fun (h : N = true) (i : Int) W => lawis_any b i W hb (near_big (hN.trans h)))
  have H3 := Lib.hid (fun (h : N = true) (i : Nat) (hi : i < 16) W => lawahead_any b i W hb (near_big (hN.trans h)) hi)
  unfold blockV at *
  have HC := Lib.hid (fun (k : Nat) (x : Int) (h : b[k]? = some x) => blk_get h)
  have hsz : (b.map (Value.int .i64)).toArray.size = 16 := by simp [hb]
  generalize (b.map (Value.int .i64)).toArray = cs at *
  have HF := Lib.hid (show (Try.prog.info? 83).map (·.size) = some cs.size by rw [hsz]; exact inf_block)
  have hB := Lib.hid (heap_alloc_new w (.cells cs 83))
  have Hb := Lib.hid hb
  clear hN hb hsz
  cases N
  · clear H1 H2 H3
    go_enter Try.func11, Try.ntmps11
    go_wp2_with (first | (go_at_call 48; refine (HN.out _).mono ?_; rintro e w1 ⟨rfl, hb1⟩) | (go_at_call 49; refine (awake11_any _).mono ?_; rintro e w2 ⟨rfl, hb2⟩) | (refine wpList_load_row_w rfl 83 (.tmp 1) rfl w.heap.size rfl _ cs _ _ hB.out Try.underlying83 rfl HF.out ?_))
    go_ret
    exact ⟨rfl, bnext (bnew _ _) (bnext hb1 hb2)⟩
  · have G1 := Lib.hid (H1.out rfl)
    have G2 := Lib.hid (H2.out rfl)
    have G3 := Lib.hid (H3.out rfl)
    clear H1 H2 H3
    go_enter Try.func11, Try.ntmps11
    go_wp2_with (first | (go_at_call 48; refine (HN.out _).mono ?_; rintro e w1 ⟨rfl, hb1⟩; have hB1 := Lib.hid ((hb1.block w.heap.size (by simp)).trans hB.out)) | (refine wpList_load_row_w rfl 83 (.tmp 1) rfl w.heap.size rfl _ cs _ _ (by first | exact hB1.out | exact hB.out) Try.underlying83 rfl HF.out ?_) | (go_at_call 52; fail))
    refine (G1.out _).mono ?_
    rintro e w2 ⟨A, c, rfl, hlc, hc63, hrow, hb2⟩
    have Hrow := Lib.hid hrow
    have Hb2 := Lib.hid (bnext hb1 hb2)
    have hB2 := Lib.hid ((hb2.block w.heap.size (by have := hb1.size; simp at this; omega)).trans hB1.out)
    obtain ⟨L, hL⟩ : ∃ L, (findT b).length = L := ⟨_, rfl⟩
    rw [hL] at hlc ⊢
    have HL := Lib.hid hL
    clear hrow hb1 hb2 hL hB1 hB
    have hs2 : w.heap.size + 1 ≤ w2.heap.size := by have := Hb2.out.size; simp at this; omega
    go_wp2_with fail
    go_loopw [4, 5] (fun n i wr => ∃ (m k : Nat), m ≤ 16 ∧ i = .int .i64 m ∧ k ≤ m ∧ (preT b m).length = k ∧ n = .int .i64 k ∧ Below w2.heap.size w2 wr) (fun _ i _ => (16 - intOf i).toNat)
    case atStart => exact ⟨0, 0, by omega, rfl, by omega, rfl, rfl, Below.refl _ _⟩
    case round =>
      obtain ⟨m, k, hm, rfl, hkm, hk, rfl, hbel⟩ := hrel
      have Hk := Lib.hid hk
      have Hbel := Lib.hid hbel
      have hB3 := Lib.hid ((hbel.block w.heap.size (by omega)).trans hB2.out)
      clear hk hbel
      by_cases hlt : m < 16
      · have t1 : (m : Int) < 16 := by omega
        obtain ⟨x, hx⟩ := list_get (k := m) Hb.out (by omega)
        have hc2 := HC.out _ _ hx
        have Hx := Lib.hid (bgt_get hx)
        obtain ⟨T, hT⟩ : ∃ T, isTone b (m : Int) = T := ⟨_, rfl⟩
        obtain ⟨a, ha⟩ : ∃ a, aheadZ b m = a := ⟨_, rfl⟩
        have ha16 : a ≤ 16 := by rw [← ha]; exact aheadTo_le b m 16
        have G2m := Lib.hid (G2.out (m : Int))
        have G3m := Lib.hid (G3.out m hlt)
        have HP := Lib.hid (show pickT b m = (T && decide (a ≤ 1)) by unfold pickT; rw [hT, ha])
        rw [hT] at G2m
        rw [ha] at G3m
        clear hx hT ha
        cases T
        · have HS := Lib.hid (show (preT b (m + 1)).length = k by rw [preT_succ, HP.out, ← Hk.out]; simp)
          go_wp2_with (first | (go_at_call 51; refine (G2m.out _).mono ?_; rintro e w3 ⟨rfl, hb3⟩) | (refine wpList_load_row_w rfl 83 (.tmp 1) rfl w.heap.size rfl _ cs _ _ hB3.out Try.underlying83 rfl HF.out ?_))
          go_roundw
          case rel => exact ⟨m + 1, k, by omega, by go_num, by omega, HS.out, rfl, bnext Hbel.out hb3⟩
          case measure => simp [intOf]; omega
        · by_cases ha1 : 1 < a
          · have t2 : (1 : Int) < (a : Int) := by omega
            have HS := Lib.hid (show (preT b (m + 1)).length = k by rw [preT_succ, HP.out, ← Hk.out, if_neg (by simp; omega)]; simp)
            go_wp2_with (first | (go_at_call 51; refine (G2m.out _).mono ?_; rintro e w3 ⟨rfl, hb3⟩; have hB4 := Lib.hid ((hb3.block w.heap.size (by have := Hbel.out.size; omega)).trans hB3.out)) | (go_at_call 53; refine (G3m.out _).mono ?_; rintro e w4 ⟨rfl, hb4⟩) | (refine wpList_load_row_w rfl 83 (.tmp 1) rfl w.heap.size rfl _ cs _ _ (by first | exact hB4.out | exact hB3.out) Try.underlying83 rfl HF.out ?_))
            go_roundw
            case rel => exact ⟨m + 1, k, by omega, by go_num, by omega, HS.out, rfl, bnext Hbel.out (bnext hb3 hb4)⟩
            case measure => simp [intOf]; omega
          · have t2 : ¬ (1 : Int) < (a : Int) := by omega
            have hP : pickT b m = true := by rw [HP.out]; simp; omega
            have HS := Lib.hid (show (preT b (m + 1)).length = k + 1 by rw [preT_succ, hP, ← Hk.out]; simp)
            have hat := preT_at b m hlt hP
            rw [Hk.out] at hat
            have hkL : k < L := by rw [← HL.out]; exact (List.getElem?_eq_some_iff.1 hat).1
            obtain ⟨g, off, hA, hg, k0, k1⟩ := tone_row Hrow.out hat
            unfold toneAt at k0 k1
            rw [Hx.out] at k1
            have HK := Lib.hid (fun W (hW : Below w2.heap.size w2 W) => And.intro ((hW.cell (p := ⟨g, off + k * 2, none⟩) hg).trans k0) ((hW.cell (p := ⟨g, off + k * 2 + 1, none⟩) hg).trans k1))
            subst hA
            clear hP hat k0 k1
            have t3 : ¬ ((L : Int) ≤ (k : Int)) := by omega
            have t4 : decide (L ≤ k) = false := decide_eq_false (by omega)
            go_wp2_with (first | (go_at_call 51; refine (G2m.out _).mono ?_; rintro e w3 ⟨rfl, hb3⟩; have hB4 := Lib.hid ((hb3.block w.heap.size (by have := Hbel.out.size; omega)).trans hB3.out)) | (go_at_call 53; refine (G3m.out _).mono ?_; rintro e w4 ⟨rfl, hb4⟩) | (refine wpList_load_row_w rfl 83 (.tmp 1) rfl w.heap.size rfl _ cs _ _ (by first | exact hB4.out | exact hB3.out) Try.underlying83 rfl HF.out ?_))
            have HW := Lib.hid (bnext Hbel.out (bnext hb3 hb4))
            have hB5 := Lib.hid ((hb4.block w.heap.size (by have := Hbel.out.size; have := hb3.size; omega)).trans hB4.out)
            have hx5 := gw_cells hB5.out
            have hk5 := fun (x : GW w4) => HK.out x.1 (HW.out.trans (x.2.mono HW.out.size))
            clear hb3 hb4
            refine wp_region_calm (by kernel_rfl) (by kernel_rfl) ?_
            repeat (go_big_quiet_step (fail))
            refine wpQuiet_nil ?_
            intro w5 hw'
            have hb5 := gw_below hw'
            have HW5 := Lib.hid (bnext HW.out hb5)
            clear hw' hb5 hx5 hk5
            go_wp2
            go_roundw
            case rel => exact ⟨m + 1, k + 1, by omega, by go_num, by omega, HS.out, by go_num, HW5.out⟩
            case measure => simp [intOf]; omega
      · have hm16 : m = 16 := by omega
        subst hm16
        have hkL : k = L := by rw [← Hk.out, ← HL.out, preT_all]
        subst hkL
        go_wp2_with (go_at_call 49; refine (awake11_any _).mono ?_; rintro e w5 ⟨rfl, hb5⟩)
        go_ret
        exact ⟨rfl, bnext (bnext (bnew _ _) Hb2.out) (bnext Hbel.out hb5)⟩
theorem ToneFinds_law (W : World) (v0 : Value) (a0 : Arg W (tyRep (.int .i64) 1 16) v0) :
    Calls Try.prog 11 #[v0] W fun e w' => e = .returned (.bool true) ∧ Below W.heap.size W w' := by
  obtain ⟨b, hb, rfl, _⟩ := arr_arg a0
  exact ToneFinds_walk b W hb
end Go.Proofs.Ythlidkdclhibpaa
