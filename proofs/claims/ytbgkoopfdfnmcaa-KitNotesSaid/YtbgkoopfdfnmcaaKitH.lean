/- Contract of the laws' own kit of zones (made); conditions: as each theorem states. -/
import Derived.Test.YtbgkoopfdfnmcaaKitG
namespace Go.Proofs.Ytbgkoopfdfnmcaa
open Go.RowKit

def madeZ (l : List ZoneV) : List ZoneV := (l.take 20).filter ZoneV.ok
def MadePost (W : World) (zs : List ZoneV) (e : Ending) (w' : World) : Prop :=
  ∃ g A c, e = .returned (.tuple #[.pointer (some ⟨g, 0, none⟩), .slice A zs.length c]) ∧ KitAt w' g zs ∧ Row w' w'.heap.size A (zoneCells zs) ∧ zs.length ≤ 20 ∧ Below W.heap.size W w'
theorem zoneCells_snoc (zs : List ZoneV) (z : ZoneV) : zoneCells (zs ++ [z]) = zoneCells zs ++ z.cells := by simp [zoneCells]
theorem take_filter_succ {α : Type} (p : α → Bool) {l : List α} {k : Nat} {x : α} (h : l[k]? = some x) : (l.take (k + 1)).filter p = (l.take k).filter p ++ (if p x = true then [x] else []) := by
  obtain ⟨hk, rfl⟩ := List.getElem?_eq_some_iff.1 h
  rw [List.take_succ_eq_append_getElem hk, List.filter_append]
  congr 1
  cases h2 : p l[k] <;> simp [h2]

set_option maxRecDepth 100000 in
set_option maxHeartbeats 2000000 in
theorem made_any (l : List ZoneV) (A : Option Addr) (cap : Nat) (w : World) (hl : l.length ≤ 9223372036854775807) (hr : Row w w.heap.size A (zoneCells l)) :
    Calls Try.prog 6 #[.slice A l.length cap] w (MadePost w (madeZ l)) := by
  obtain ⟨i0, hi, hz0, hz1, hz2⟩ := info_parts inf_zone
  obtain ⟨n, hn'⟩ : ∃ n, l.length = n := ⟨_, rfl⟩
  have Hn := Lib.hid hn'
  have Hr := Lib.hid hr
  rw [hn'] at hl ⊢
  clear hn' hr
  go_enter Try.func6, Try.ntmps6
  go_wp2
  go_loopw [4, 5] (fun o i wr => ∃ (k : Nat) (zs : List ZoneV) (A' : Option Addr) (c : Nat), k ≤ n ∧ k ≤ 20 ∧ i = .int .i64 k ∧ o = .slice A' zs.length c ∧ zs = (l.take k).filter ZoneV.ok ∧ zs.length ≤ k ∧
      wr.ownsRow w.heap.size 67 11 (.slice A' zs.length c) zs.length (zoneCells zs) ∧ Below w.heap.size w wr) (fun _ i _ => n - (intOf i).toNat)
  case atStart => exact ⟨0, [], none, 0, Nat.zero_le _, by omega, rfl, rfl, rfl, Nat.le_refl _, World.ownsRow_nil _ _ _ _, Below.refl _ _⟩
  case round =>
    obtain ⟨k, zs, A', c, hk, hk20, rfl, rfl, hzs, hlen, hown, hbel⟩ := hrel
    have Hzs := Lib.hid hzs
    have Hown := Lib.hid hown
    have Hbel := Lib.hid hbel
    have Hge := Lib.hid (own_block_ge hown)
    clear hzs hown hbel
    by_cases hlt : k < n ∧ k < 20
    · obtain ⟨hlt, hlt20⟩ := hlt
      obtain ⟨z, hz⟩ : ∃ z, l[k]? = some z := ⟨_, List.getElem?_eq_getElem (by rw [Hn.out]; exact hlt)⟩
      obtain ⟨b, off, rfl, hb, hc⟩ := zone_at Hr.out hz
      have HB := Lib.hid (fun W (hW : Below w.heap.size w W) j v (hv : z.cells[j]? = some v) => (hW.cell (p := ⟨b, off + k * 11 + j, none⟩) hb).trans (hc j v hv))
      have c0 := HB.out _ Hbel.out 0 _ rfl
      have c1 := HB.out _ Hbel.out 1 _ rfl
      have c2 := HB.out _ Hbel.out 2 _ rfl
      have c3 := HB.out _ Hbel.out 3 _ rfl
      have c4 := HB.out _ Hbel.out 4 _ rfl
      have c5 := HB.out _ Hbel.out 5 _ rfl
      have c6 := HB.out _ Hbel.out 6 _ rfl
      have c7 := HB.out _ Hbel.out 7 _ rfl
      have c8 := HB.out _ Hbel.out 8 _ rfl
      have c9 := HB.out _ Hbel.out 9 _ rfl
      have c10 := HB.out _ Hbel.out 10 _ rfl
      rw [Nat.add_zero] at c0
      have Hz := Lib.hid hz
      have HC := Lib.hid (lawright38_any z wr)
      clear hz hc hb
      obtain ⟨K, hK⟩ : ∃ K, z.ok = K := ⟨_, rfl⟩
      rw [hK] at HC
      have HK := Lib.hid hK
      clear hK
      cases K
      · go_wp2_with (go_at_call 26; refine HC.out.mono ?_; rintro e w1 ⟨rfl, hb1⟩)
        go_roundw
        case rel => exact ⟨k + 1, zs, A', c, by omega, by omega, by go_num, rfl, by rw [take_filter_succ _ Hz.out, ← Hzs.out, HK.out]; simp, by omega, own_below Hown.out hb1, bnext Hbel.out hb1⟩
        case measure => simp [intOf]; omega
      · go_wp2_with fail
        refine HC.out.mono ?_
        rintro e w1 ⟨rfl, hb1⟩
        have Hb1 := Lib.hid (bnext Hbel.out hb1)
        have hsz := Nat.le_trans Hbel.out.size hb1.size
        have own1 := Lib.hid (own_below Hown.out hb1)
        clear c0 c1 c2 c3 c4 c5 c6 c7 c8 c9 c10 hb1
        have c0 := HB.out _ Hb1.out 0 _ rfl
        have c1 := HB.out _ Hb1.out 1 _ rfl
        have c2 := HB.out _ Hb1.out 2 _ rfl
        have c3 := HB.out _ Hb1.out 3 _ rfl
        have c4 := HB.out _ Hb1.out 4 _ rfl
        have c5 := HB.out _ Hb1.out 5 _ rfl
        have c6 := HB.out _ Hb1.out 6 _ rfl
        have c7 := HB.out _ Hb1.out 7 _ rfl
        have c8 := HB.out _ Hb1.out 8 _ rfl
        have c9 := HB.out _ Hb1.out 9 _ rfl
        have c10 := HB.out _ Hb1.out 10 _ rfl
        rw [Nat.add_zero] at c0
        go_wp2_with (at_builtin; refine wpList_app _ rfl (.tmp 23) (.tmp 28) 22 rfl w.heap.size 67 i0 _ 11 96 Try.underlying22 hi hz0 hz1 hz2 rfl (by omega) _ zs.length (zoneCells zs) rfl (own1.out.alloc _) (w1.heap.size + 1) (some ⟨w1.heap.size, 0, none⟩) 1 1 z.cells rfl rfl (Row.new w1 _ _) (by have := zone_one [z]; simpa [zoneCells] using this) (by omega) (by omega) (by simp; omega) ?_; intro A2 cc w2 hown2 hgrow hat hcc)
        go_roundw
        case rel =>
          have hb2 : Below w.heap.size w w2 := (Hb1.out.alloc (by omega) _).grown hgrow (by simp; omega) (fun g h => Hge.out g h)
          exact ⟨k + 1, zs ++ [z], A2, cc, by omega, by omega, by go_num, by simp, by rw [take_filter_succ _ Hz.out, ← Hzs.out, HK.out]; rfl, by simp; omega, by rw [zoneCells_snoc, List.length_append]; exact hown2, hb2⟩
        case measure => simp [intOf]; omega
    · have hz2 : zs = madeZ l := by
        rw [Hzs.out]
        unfold madeZ
        by_cases h20 : k = 20
        · rw [h20]
        · rw [List.take_of_length_le (by rw [Hn.out]; omega), List.take_of_length_le (by rw [Hn.out]; omega)]
      have hz20 : zs.length ≤ 20 := by omega
      have hok : zs.all ZoneV.ok = true := by
        rw [hz2, List.all_eq_true]
        intro x hx
        exact (List.mem_filter.1 hx).2
      obtain ⟨A3, c3, h3, hc3, hn3⟩ := own_form Hown.out
      injection h3 with e1 _ e3
      subst e1 e3
      have HQ := Lib.hid (kitNew_any zs A' c wr (by omega) (fun h => (hn3 h).2) (Row.of_own Hown.out))
      have Hok := Lib.hid hok
      have Hz2 := Lib.hid hz2
      clear hok hz2 hn3 hc3
      go_wp2_with fail
      all_goals
        refine HQ.out.mono ?_
        rintro e w1 (⟨h64, _⟩ | ⟨_, hf, _⟩ | ⟨_, _, g, rfl, hkit, _, hb1⟩)
        · omega
        · rw [Hok.out] at hf; cases hf
        · have Hkit := Lib.hid hkit
          have Hb1 := Lib.hid hb1
          clear hkit hb1
          go_wp2
          go_ret2
          rw [← Hz2.out]
          exact ⟨g, A', c, rfl, Hkit.out, (Row.of_own Hown.out).later Hb1.out, hz20, bnext Hbel.out Hb1.out⟩
end Go.Proofs.Ytbgkoopfdfnmcaa
