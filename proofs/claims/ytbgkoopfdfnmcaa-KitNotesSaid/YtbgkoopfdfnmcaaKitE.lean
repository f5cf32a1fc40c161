/- Contracts of (*Kit).plays and Gap; conditions: as each theorem states. -/
import Derived.Test.YtbgkoopfdfnmcaaKitD
namespace Go.Proofs.Ytbgkoopfdfnmcaa
open Go.RowKit

/-- does a key play something? -/
def playsZ (zs : List ZoneV) (key : Int) : Bool := (List.range 127).any fun h => decide (0 ≤ findZ key (((h + 1 : Nat) : Int)) zs)
def gapFrom (a : Int) (m : Nat) : List Int := (List.range m).map fun (i : Nat) => a + (i : Int)
/-- the keys from one to another one that play nothing -/
def gapZ (zs : List ZoneV) (f t : Int) : List Int := (gapFrom (max f 0) (min t 127 + 1 - max f 0).toNat).filter fun x => !playsZ zs x

theorem any_range_false (p : Nat → Bool) (n : Nat) (h : ∀ i, i < n → p i = false) : (List.range n).any p = false := by
  rw [List.any_eq_false]
  intro x hx
  simp [h x (List.mem_range.1 hx)]
theorem any_range_true (p : Nat → Bool) (n i : Nat) (hi : i < n) (h : p i = true) : (List.range n).any p = true := by
  rw [List.any_eq_true]
  exact ⟨i, List.mem_range.2 hi, h⟩

set_option maxRecDepth 100000 in
set_option maxHeartbeats 1000000 in
theorem plays_any (zs : List ZoneV) (g : Nat) (key : Int) (w : World) (hl : zs.length ≤ 1000000) (hk : KitAt w g zs) :
    Calls Try.prog 53 #[.pointer (some ⟨g, 0, none⟩), .int .i64 key] w fun e w' => e = .returned (.bool (playsZ zs key)) ∧ Below w.heap.size w w' := by
  have HK := Lib.hid (fun W (hW : Below w.heap.size w W) hard => kitFind_any zs g key hard W hl (hk.later hW))
  clear hk
  obtain ⟨F, hF⟩ : ∃ F, playsZ zs key = F := ⟨_, rfl⟩
  rw [hF]
  have HF := Lib.hid hF
  clear hF
  go_enter Try.func53, Try.ntmps53
  go_wp2
  go_loopw [5] (fun i wr => ∃ h : Nat, h ≤ 127 ∧ i = .int .i64 (((h + 1 : Nat) : Int)) ∧ (∀ j, j < h → decide (0 ≤ findZ key (((j + 1 : Nat) : Int)) zs) = false) ∧ Below w.heap.size w wr) (fun i _ => 128 - (intOf i).toNat)
  case atStart => exact ⟨0, by omega, rfl, fun j hj => by omega, Below.refl _ _⟩
  case round =>
    obtain ⟨h, hh, rfl, hpre, hbel⟩ := hrel
    have Hpre := Lib.hid hpre
    have Hbel := Lib.hid hbel
    clear hpre hbel
    by_cases hlt : h < 127
    · obtain ⟨V, hV⟩ : ∃ V, findZ key (((h + 1 : Nat) : Int)) zs = V := ⟨_, rfl⟩
      have HV := Lib.hid hV
      have HQ := Lib.hid (HK.out _ Hbel.out (((h + 1 : Nat) : Int)))
      rw [hV] at HQ
      rw [show (((h + 1 : Nat) : Int)) = (h : Int) + 1 by omega] at HQ ⊢
      clear hV
      by_cases hv : 0 ≤ V
      · go_wp2_with (go_at_call 31; refine HQ.out.mono ?_; rintro e w1 ⟨rfl, hb1⟩)
        go_ret
        exact ⟨ret_bool (by rw [← HF.out]; exact (any_range_true _ 127 h hlt (by rw [HV.out]; exact decide_eq_true hv)).symm), bnext Hbel.out hb1⟩
      · go_wp2_with (go_at_call 31; refine HQ.out.mono ?_; rintro e w1 ⟨rfl, hb1⟩)
        go_roundw
        case rel => exact ⟨h + 1, by omega, by go_num, fun j hj => by
          rcases Nat.lt_or_ge j h with h1 | h1
          · exact Hpre.out j h1
          · obtain rfl : j = h := by omega
            rw [HV.out]; exact decide_eq_false (by omega), bnext Hbel.out hb1⟩
        case measure => simp [intOf]; omega
    · obtain rfl : h = 127 := by omega
      go_wp2
      go_ret
      exact ⟨ret_bool (by rw [← HF.out]; exact (any_range_false _ 127 Hpre.out).symm), Hbel.out⟩

def GapPost (W : World) (xs : List Int) (e : Ending) (w' : World) : Prop := ∃ A c, e = .returned (.slice A xs.length c) ∧ xs.length ≤ c ∧ c ≤ 9223372036854775807 ∧ Row w' w'.heap.size A (xs.map (.int .i64)) ∧ Below W.heap.size W w'
theorem inf_int : (Try.prog.info? 3).map (fun i => (i.zero, i.size, i.bytes)) = some (some (.int .i64 0), 1, 8) := by kernel_rfl

/-- what is owned stays owned in a world that grew -/
theorem own_below {w w' : World} {base : Nat} {e : TypeId} {size n : Nat} {v : Value} {xs : List Value} (h : w.ownsRow base e size v n xs) (hb : Below w.heap.size w w') : w'.ownsRow base e size v n xs := by
  obtain ⟨h1, h2⟩ := h
  refine ⟨h1, ?_⟩
  rcases h2 with h2 | ⟨g, cap, cur, hv, hg, hh, r⟩
  · exact .inl h2
  · have hlt : g < w.heap.size := by
      rcases Nat.lt_or_ge g w.heap.size with h | h
      · exact h
      · rw [Array.getElem?_eq_none h] at hh; cases hh
    exact .inr ⟨g, cap, cur, hv, hg, (hb.block g hlt).trans hh, r⟩
theorem own_len {w : World} {base : Nat} {e : TypeId} {size n c : Nat} {A : Option Addr} {xs : List Value} (h : w.ownsRow base e size (.slice A n c) n xs) : n ≤ c := by
  obtain ⟨A', c', h1, h2, _⟩ := own_form h
  injection h1 with _ _ h3
  omega
theorem gap_succ (zs : List ZoneV) (a : Int) (m : Nat) : (gapFrom a (m + 1)).filter (fun x => !playsZ zs x) = (gapFrom a m).filter (fun x => !playsZ zs x) ++ (if playsZ zs (a + m) = true then [] else [a + m]) := by
  unfold gapFrom
  rw [List.range_succ, List.map_append, List.filter_append]
  congr 1
  cases h : playsZ zs (a + m) <;> simp [h]
theorem gap_len (zs : List ZoneV) (a : Int) (m : Nat) : ((gapFrom a m).filter (fun x => !playsZ zs x)).length ≤ m := by
  have := List.length_filter_le (fun x => !playsZ zs x) (gapFrom a m)
  simpa [gapFrom] using this

set_option maxRecDepth 100000 in
set_option maxHeartbeats 2000000 in
theorem gap_any (zs : List ZoneV) (g : Nat) (f t : Int) (w : World) (hl : zs.length ≤ 1000000) (hk : KitAt w g zs) :
    Calls Try.prog 35 #[.pointer (some ⟨g, 0, none⟩), .int .i64 f, .int .i64 t] w (GapPost w (gapZ zs f t)) := by
  obtain ⟨i0, hi, hz0, hz1, hz2⟩ := info_parts inf_int
  have HK := Lib.hid (fun W (hW : Below w.heap.size w W) key => plays_any zs g key W hl (hk.later hW))
  clear hk
  have hf : f < 0 ∨ 0 ≤ f := by omega
  have ht : t < 127 ∨ 127 ≤ t := by omega
  obtain ⟨G, hG⟩ : ∃ G, gapZ zs f t = G := ⟨_, rfl⟩
  rw [hG]
  have HG := Lib.hid hG
  clear hG
  rcases hf with hf | hf
  all_goals rcases ht with ht | ht
  all_goals
    go_enter Try.func35, Try.ntmps35
    go_wp2
    go_loopw [7, 8] (fun o i wr => ∃ (kk : Int) (m : Nat) (xs : List Int) (A : Option Addr) (c : Nat), i = .int .i64 kk ∧ kk = max f 0 + m ∧ m ≤ (min t 127 + 1 - max f 0).toNat ∧ xs = (gapFrom (max f 0) m).filter (fun x => !playsZ zs x) ∧ o = .slice A xs.length c ∧ c ≤ 9223372036854775807 ∧
        wr.ownsRow w.heap.size 3 1 (.slice A xs.length c) xs.length (xs.map (.int .i64)) ∧ Below w.heap.size w wr) (fun _ i _ => (min t 127 + 1 - intOf i).toNat)
    case atStart => exact ⟨_, 0, [], none, 0, rfl, by omega, by omega, rfl, rfl, by omega, World.ownsRow_nil _ _ _ _, Below.refl _ _⟩
    case round =>
      obtain ⟨kk, m, xs, A, c, rfl, hkk, hm, hxs, rfl, hc63, hown, hbel⟩ := hrel
      have hlen : xs.length ≤ m := by rw [hxs]; exact gap_len _ _ _
      have Hxs := Lib.hid hxs
      have Hown := Lib.hid hown
      have Hbel := Lib.hid hbel
      have Hge := Lib.hid (own_block_ge hown)
      have Hkk := Lib.hid hkk
      clear hxs hown hbel
      by_cases hc : kk ≤ min t 127
      · have hk0 : 0 ≤ kk := by omega
        have hm2 : m < (min t 127 + 1 - max f 0).toNat := by omega
        have hm3 : m ≤ 127 := by omega
        clear hkk
        obtain ⟨P, hP⟩ : ∃ P, playsZ zs kk = P := ⟨_, rfl⟩
        have HP := Lib.hid hP
        have HQ := Lib.hid (HK.out _ Hbel.out kk)
        rw [hP] at HQ
        clear hP
        cases P
        · go_wp2_with (first | (go_at_call 53; refine HQ.out.mono ?_; rintro e w1 ⟨rfl, hb1⟩; have own1 := own_below Hown.out hb1) | (at_builtin; refine wpList_app _ rfl (.tmp 21) (.tmp 23) 79 rfl w.heap.size 3 i0 (.int .i64 0) 1 8 Try.underlying79 hi hz0 hz1 hz2 rfl (by omega) _ xs.length (xs.map (.int .i64)) rfl (own1.alloc _) (w1.heap.size + 1) (some ⟨w1.heap.size, 0, none⟩) 1 1 [.int .i64 kk] rfl rfl (Row.new w1 _ _) (fun u hu => by simp at hu; subst hu; rfl) (by omega) (by omega) (by have := Hbel.out.size; have := hb1.size; simp; omega) ?_; intro A' cc w2 hown2 hgrow hat hcc))
          go_roundw
          case rel =>
            have hb2 : Below w.heap.size w w2 := ((bnext Hbel.out hb1).alloc (by have := Hbel.out.size; have := hb1.size; omega) _).grown hgrow (by have := Hbel.out.size; have := hb1.size; simp; omega) (fun g h => Hge.out g h)
            have hcm : cc ≤ 9223372036854775807 := own_cap hown2
            exact ⟨kk + 1, m + 1, xs ++ [kk], A', cc, by go_num, by have := Hkk.out; omega, by omega, by rw [gap_succ, ← Hxs.out, ← Hkk.out, HP.out]; rfl, by simp, hcm, by simpa using hown2, hb2⟩
          case measure => simp [intOf]; omega
        · go_wp2_with (go_at_call 53; refine HQ.out.mono ?_; rintro e w1 ⟨rfl, hb1⟩)
          go_roundw
          case rel => exact ⟨kk + 1, m + 1, xs, A, c, by go_num, by have := Hkk.out; omega, by omega, by rw [gap_succ, ← Hxs.out, ← Hkk.out, HP.out]; simp, rfl, hc63, own_below Hown.out hb1, bnext Hbel.out hb1⟩
          case measure => simp [intOf]; omega
      · have hm2 : m = (min t 127 + 1 - max f 0).toNat := by omega
        have HM := Lib.hid hm2
        clear hkk hm2
        have He := Lib.hid (show G = xs by rw [← HG.out, Hxs.out, HM.out]; rfl)
        go_wp2
        all_goals
          go_ret
          rw [He.out]
          exact ⟨A, c, rfl, (own_len Hown.out), hc63, Row.of_own Hown.out, Hbel.out⟩
end Go.Proofs.Ytbgkoopfdfnmcaa
