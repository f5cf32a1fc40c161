/- Contracts of slices.IndexFunc at layer 38's zones, of (*Kit).Find, plays and Gap; conditions: as each theorem states. -/
import Derived.Test.YtbgkoopfdfnmcaaKitC
namespace Go.Proofs.Ytbgkoopfdfnmcaa
open Go.RowKit

set_option maxRecDepth 100000 in
set_option maxHeartbeats 2000000 in
theorem indexFunc_any (zs : List ZoneV) (A : Option Addr) (cap : Nat) (g1 g2 : Nat) (key hard : Int) (w : World) (hl : zs.length ≤ 1000000) (hr : Row w w.heap.size A (zoneCells zs))
    (h1 : w.cell? ⟨g1, 0, none⟩ = some (.int .i64 key)) (h2 : w.cell? ⟨g2, 0, none⟩ = some (.int .i64 hard)) :
    Calls Try.prog 50 #[.slice A zs.length cap, .func (.func 51) #[] #[.pointer (some ⟨g1, 0, none⟩), .pointer (some ⟨g2, 0, none⟩)]] w
      fun e w' => e = .returned (.int .i64 (findZ key hard zs)) ∧ Below w.heap.size w w' := by
  obtain ⟨n, hn⟩ : ∃ n, zs.length = n := ⟨_, rfl⟩
  have Hn := Lib.hid hn
  have Hr := Lib.hid hr
  rw [hn] at hl ⊢
  clear hn hr
  obtain ⟨F, hF⟩ : ∃ F, findZ key hard zs = F := ⟨_, rfl⟩
  rw [hF]
  have HF := Lib.hid hF
  have G1 := Lib.hid h1
  have G2 := Lib.hid h2
  clear hF h1 h2
  go_enter Try.func50, Try.ntmps50
  go_wp2
  go_loopw [8] (fun i wr => ∃ k : Nat, k ≤ n ∧ i = .int .i64 k ∧ (zs.take k).all (fun z => !z.fits key hard) = true ∧ Below w.heap.size w wr) (fun i _ => n - (intOf i).toNat)
  case atStart => exact ⟨0, Nat.zero_le _, rfl, by simp, Below.refl _ _⟩
  case round =>
    obtain ⟨k, hk, rfl, hpre, hbel⟩ := hrel
    have Hpre := Lib.hid hpre
    have Hbel := Lib.hid hbel
    clear hpre hbel
    by_cases hlt : k < n
    · obtain ⟨z, hz⟩ : ∃ z, zs[k]? = some z := ⟨_, List.getElem?_eq_getElem (by rw [Hn.out]; exact hlt)⟩
      obtain ⟨b, off, rfl, hb, hc⟩ := zone_at (Hr.out.later Hbel.out) hz
      have c0 := hc 0 _ rfl
      have c1 := hc 1 _ rfl
      have c2 := hc 2 _ rfl
      have c3 := hc 3 _ rfl
      have c4 := hc 4 _ rfl
      have c5 := hc 5 _ rfl
      have c6 := hc 6 _ rfl
      have c7 := hc 7 _ rfl
      have c8 := hc 8 _ rfl
      have c9 := hc 9 _ rfl
      have c10 := hc 10 _ rfl
      rw [Nat.add_zero] at c0
      have Hz := Lib.hid hz
      have HC := Lib.hid (find1_any z g1 g2 key hard wr ((Hbel.out.cell (cell_lt G1.out)).trans G1.out) ((Hbel.out.cell (cell_lt G2.out)).trans G2.out))
      clear hz hc hb
      by_cases hf : z.fits key hard = true
      · have Hf := Lib.hid hf
        clear hf
        go_wp2_with (go_at_call 51; refine HC.out.mono ?_; rintro e w1 ⟨rfl, hb1⟩; rw [Hf.out])
        go_ret
        exact ⟨ret_int (by rw [← HF.out]; exact (findZ_at Hz.out Hf.out Hpre.out).symm), bnext Hbel.out hb1⟩
      · have Hf := Lib.hid (show z.fits key hard = false by simpa using hf)
        clear hf
        go_wp2_with (go_at_call 51; refine HC.out.mono ?_; rintro e w1 ⟨rfl, hb1⟩; rw [Hf.out])
        go_roundw
        case rel => exact ⟨k + 1, by omega, by go_num, by rw [all_take_succ _ Hz.out, Hpre.out, Hf.out]; rfl, bnext Hbel.out hb1⟩
        case measure => simp [intOf]; omega
    · have Hall := Lib.hid (all_take_all _ (by rw [Hn.out]; omega) Hpre.out)
      go_wp2
      go_ret
      exact ⟨ret_int (by rw [← HF.out]; exact (findZ_none Hall.out).symm), Hbel.out⟩

/-- a kit in memory: its zones -/
def KitAt (w : World) (g : Nat) (zs : List ZoneV) : Prop := ∃ A cap, w.cell? ⟨g, 0, none⟩ = some (.slice A zs.length cap) ∧ zs.length ≤ cap ∧ cap ≤ 9223372036854775807 ∧ Row w w.heap.size A (zoneCells zs)
theorem KitAt.later {w w' : World} {g : Nat} {zs : List ZoneV} (h : KitAt w g zs) (hb : Below w.heap.size w w') : KitAt w' g zs := by
  obtain ⟨A, cap, h1, h2, h3, h4⟩ := h
  exact ⟨A, cap, (hb.cell (cell_lt h1)).trans h1, h2, h3, h4.later hb⟩

set_option maxHeartbeats 1000000 in
theorem kitFind_nil (key hard : Int) (w : World) : Calls Try.prog 31 #[.pointer none, .int .i64 key, .int .i64 hard] w fun e w' => e = .returned (.int .i64 (-1)) ∧ Below w.heap.size w w' := by
  go_enter Try.func31, Try.ntmps31
  go_wp2
  go_ret
  exact ⟨rfl, bnext (bnew _ _) (bnew _ _)⟩

set_option maxHeartbeats 1000000 in
theorem kitFind_any (zs : List ZoneV) (g : Nat) (key hard : Int) (w : World) (hl : zs.length ≤ 1000000) (hk : KitAt w g zs) :
    Calls Try.prog 31 #[.pointer (some ⟨g, 0, none⟩), .int .i64 key, .int .i64 hard] w fun e w' => e = .returned (.int .i64 (findZ key hard zs)) ∧ Below w.heap.size w w' := by
  obtain ⟨A, cap, h1, h2, h3, h4⟩ := hk
  have hA := fun O => cell_alloc h1 O
  have hA2 := fun O O' => cell_alloc (cell_alloc h1 O) O'
  have HQ := Lib.hid (fun W (hW : Below w.heap.size w W) (k1 : W.cell? ⟨w.heap.size, 0, none⟩ = some (.int .i64 key)) (k2 : W.cell? ⟨w.heap.size + 1, 0, none⟩ = some (.int .i64 hard)) => indexFunc_any zs A cap w.heap.size (w.heap.size + 1) key hard W hl (h4.later hW) k1 k2)
  clear h2 h3 h4
  go_enter Try.func31, Try.ntmps31
  go_wp2_with (go_at_call 50; refine (HQ.out _ (bnext (bnew _ _) (bnew _ _)) (by simp) (by simp)).mono ?_; rintro e w1 ⟨rfl, hb⟩)
  go_ret
  exact ⟨rfl, bnext (bnext (bnew _ _) (bnew _ _)) hb⟩
end Go.Proofs.Ytbgkoopfdfnmcaa
