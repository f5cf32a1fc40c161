/- Contract of layer 38's New; conditions: as each theorem states. -/
import Derived.Test.YtbgkoopfdfnmcaaKitF
namespace Go.Proofs.Ytbgkoopfdfnmcaa
open Go.RowKit

def NewPost (W : World) (zs : List ZoneV) (e : Ending) (w' : World) : Prop :=
  (64 < zs.length ∧ e = .returned (.tuple #[.pointer none, .int .i64 6]) ∧ Below W.heap.size W w') ∨
  (zs.length ≤ 64 ∧ zs.all ZoneV.ok = false ∧ e = .returned (.tuple #[.pointer none, .int .i64 1]) ∧ Below W.heap.size W w') ∨
  (zs.length ≤ 64 ∧ zs.all ZoneV.ok = true ∧ ∃ g, e = .returned (.tuple #[.pointer (some ⟨g, 0, none⟩), .int .i64 0]) ∧ KitAt w' g zs ∧ W.heap.size ≤ g ∧ Below W.heap.size W w')

set_option maxRecDepth 100000 in
set_option maxHeartbeats 2000000 in
theorem kitNew_any (zs : List ZoneV) (A : Option Addr) (cap : Nat) (w : World) (hl : zs.length ≤ 1000000) (hn : A = none → cap = 0) (hr : Row w w.heap.size A (zoneCells zs)) :
    Calls Try.prog 27 #[.slice A zs.length cap] w (NewPost w zs) := by
  obtain ⟨n, hn'⟩ : ∃ n, zs.length = n := ⟨_, rfl⟩
  have Hn := Lib.hid hn'
  have Hr := Lib.hid hr
  have HN := Lib.hid hn
  rw [hn'] at hl ⊢
  clear hn' hr hn
  by_cases h64 : 64 < n
  · go_enter Try.func27, Try.ntmps27
    go_wp2
    go_ret2
    exact .inl ⟨by rw [Hn.out]; exact h64, rfl, Below.refl _ _⟩
  · have hd : decide ((64 : Int) < (n : Int)) = false := decide_eq_false (by omega)
    go_enter Try.func27, Try.ntmps27
    go_wp2
    go_loopw [11] (fun i wr => ∃ k : Nat, k ≤ n ∧ i = .int .i64 k ∧ (zs.take k).all ZoneV.ok = true ∧ Below w.heap.size w wr) (fun i _ => n - (intOf i).toNat)
    case atStart => exact ⟨0, Nat.zero_le _, rfl, by simp, Below.refl _ _⟩
    case round =>
      obtain ⟨k, hk, rfl, hpre, hbel⟩ := hrel
      have Hpre := Lib.hid hpre
      have Hbel := Lib.hid hbel
      clear hpre hbel
      by_cases hlt : k < n
      · obtain ⟨z, hz⟩ : ∃ z, zs[k]? = some z := ⟨_, List.getElem?_eq_getElem (by rw [Hn.out]; exact hlt)⟩
        obtain ⟨b, off, rfl, hb, hc⟩ := zone_at (Hr.out.later Hbel.out) hz
        have c0 := hc 0 _ rfl
        have c1 := hc 1 _ rfl
        have c2 := hc 2 _ rfl
        have c3 := hc 3 _ rfl
        have c4 := hc 4 _ rfl
        have c5 := hc 5 _ rfl
        have c6 := hc 6 _ rfl
        have c7 := hc 7 _ rfl
        have c8 := hc 8 _ rfl
        have c9 := hc 9 _ rfl
        have c10 := hc 10 _ rfl
        rw [Nat.add_zero] at c0
        have Hz := Lib.hid hz
        have HC := Lib.hid (fun W => kitRight_any z W)
        clear hz hc hb
        obtain ⟨K, hK⟩ : ∃ K, z.ok = K := ⟨_, rfl⟩
        rw [hK] at HC
        have HK := Lib.hid hK
        clear hK
        cases K
        · go_wp2_with (go_at_call 48; refine (HC.out _).mono ?_; rintro e w1 ⟨rfl, hb1⟩)
          go_ret2
          exact .inr (.inl ⟨by rw [Hn.out]; omega, all_false_of _ Hz.out HK.out, rfl, bnext Hbel.out (bnext (bnew _ _) hb1)⟩)
        · go_wp2_with (go_at_call 48; refine (HC.out _).mono ?_; rintro e w1 ⟨rfl, hb1⟩)
          go_roundw
          case rel => exact ⟨k + 1, by omega, by go_num, by rw [all_take_succ _ Hz.out, Hpre.out, HK.out]; rfl, bnext Hbel.out (bnext (bnew _ _) hb1)⟩
          case measure => simp [intOf]; omega
      · have Hall := Lib.hid (all_take_all ZoneV.ok (by rw [Hn.out]; omega) Hpre.out)
        have HQ := Lib.hid (cloneZ_any zs A cap wr (by rw [Hn.out]; exact hl) HN.out (Hr.out.later Hbel.out))
        rw [Hn.out] at HQ
        go_wp2_with (go_at_call 49; refine HQ.out.mono ?_; rintro e w1 ⟨A', c', rfl, hc1, hc2, hrow, hfar, hb1⟩)
        go_ret2
        refine .inr (.inr ⟨by rw [Hn.out]; omega, Hall.out, w1.heap.size, rfl, ⟨A', c', by simp [Hn.out], hc1, hc2, hrow.later (bnew _ _)⟩, Nat.le_trans Hbel.out.size hb1.size, bnext Hbel.out (bnext hb1 (bnew _ _))⟩)
end Go.Proofs.Ytbgkoopfdfnmcaa
