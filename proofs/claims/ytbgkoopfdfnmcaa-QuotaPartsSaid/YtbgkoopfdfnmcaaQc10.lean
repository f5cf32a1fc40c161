/- KitC, KitD, KitE. Conditions: as each theorem states. -/
import Derived.Test.YtbgkoopfdfnmcaaQc09

namespace Go.Proofs.Ytbgkoopfdfnmcaa
open Go.RowKit

def zoneCells (zs : List ZoneV) : List Value := (zs.map ZoneV.cells).flatten
theorem cells_len (z : ZoneV) : z.cells.length = 11 := rfl
theorem zone_get (zs : List ZoneV) {k : Nat} {z : ZoneV} (h : zs[k]? = some z) (j : Nat) (hj : j < 11) : (zoneCells zs)[k * 11 + j]? = z.cells[j]? := by
  unfold zoneCells
  rw [flat_get 11 (zs.map ZoneV.cells) (fun cs hcs => by obtain ⟨z, _, rfl⟩ := List.mem_map.1 hcs; rfl) k j hj]
  simp [h]
theorem zones_len (zs : List ZoneV) : (zoneCells zs).length = zs.length * 11 := by
  unfold zoneCells
  rw [flat_len 11 (zs.map ZoneV.cells) (fun cs hcs => by obtain ⟨z, _, rfl⟩ := List.mem_map.1 hcs; rfl), List.length_map]
/-- a zone of a row of zones -/
theorem zone_at {w : World} {B : Nat} {A : Option Addr} {zs : List ZoneV} (hr : Row w B A (zoneCells zs)) {k : Nat} {z : ZoneV} (h : zs[k]? = some z) :
    ∃ b off, A = some ⟨b, off, none⟩ ∧ b < B ∧ ∀ j v, z.cells[j]? = some v → w.cell? ⟨b, off + k * 11 + j, none⟩ = some v := by
  have h0 := zone_get zs h 0 (by omega)
  obtain ⟨b, off, hA, hb, _⟩ := hr (k * 11 + 0) (.int .i64 z.low) h0
  refine ⟨b, off, hA, hb, fun j v hv => ?_⟩
  have hj : j < 11 := by have := (List.getElem?_eq_some_iff.1 hv).1; rwa [cells_len] at this
  have h1 := zone_get zs h j hj
  rw [hv] at h1
  obtain ⟨b', off', hA', _, hc⟩ := hr (k * 11 + j) v h1
  rw [hA] at hA'
  injection hA' with hA'
  injection hA' with e1 e2
  subst e1 e2
  rw [Nat.add_assoc]; exact hc

/-- does a zone fit? -/
def ZoneV.fits (key hard : Int) (z : ZoneV) : Bool := decide (z.low ≤ key) && decide (key ≤ z.high) && decide (z.soft ≤ hard) && decide (hard ≤ z.hard)
/-- the first zone that fits; -1: none -/
def findZ (key hard : Int) (zs : List ZoneV) : Int := match zs.findIdx? (ZoneV.fits key hard) with | some i => i | none => -1
theorem findZ_at {key hard : Int} {zs : List ZoneV} {k : Nat} {z : ZoneV} (h : zs[k]? = some z) (hf : z.fits key hard = true) (hpre : (zs.take k).all (fun z => !z.fits key hard) = true) : findZ key hard zs = k := by
  unfold findZ
  have : zs.findIdx? (ZoneV.fits key hard) = some k := by
    rw [List.findIdx?_eq_some_iff_getElem]
    obtain ⟨hk, rfl⟩ := List.getElem?_eq_some_iff.1 h
    refine ⟨hk, hf, fun j hj => ?_⟩
    have := List.all_eq_true.1 hpre zs[j] (by rw [List.mem_take_iff_getElem]; exact ⟨j, by omega, rfl⟩)
    simpa using this
  rw [this]
theorem findZ_none {key hard : Int} {zs : List ZoneV} (h : zs.all (fun z => !z.fits key hard) = true) : findZ key hard zs = -1 := by
  unfold findZ
  have : zs.findIdx? (ZoneV.fits key hard) = none := by
    rw [List.findIdx?_eq_none_iff]
    intro x hx
    have := List.all_eq_true.1 h x hx
    simpa using this
  rw [this]

set_option maxHeartbeats 2000000 in
theorem lawfind_any (zs : List ZoneV) (A : Option Addr) (cap : Nat) (key hard : Int) (w : World) (hl : zs.length ≤ 1000000) (hr : Row w w.heap.size A (zoneCells zs)) :
    Calls Try.prog 30 #[.slice A zs.length cap, .int .i64 key, .int .i64 hard] w fun e w' => e = .returned (.int .i64 (findZ key hard zs)) ∧ w = w' := by
  obtain ⟨n, hn⟩ : ∃ n, zs.length = n := ⟨_, rfl⟩
  have Hn := Lib.hid hn
  have Hr := Lib.hid hr
  rw [hn] at hl ⊢
  clear hn hr
  obtain ⟨F, hF⟩ : ∃ F, findZ key hard zs = F := ⟨_, rfl⟩
  rw [hF]
  have HF := Lib.hid hF
  clear hF
  go_enter Try.func30, Try.ntmps30
  go_wp2
  go_loop [7] (fun i => ∃ k : Nat, k ≤ n ∧ i = .int .i64 k ∧ (zs.take k).all (fun z => !z.fits key hard) = true) (fun i => n - (intOf i).toNat)
  case atStart => exact ⟨0, Nat.zero_le _, rfl, by simp⟩
  case round =>
    obtain ⟨k, hk, rfl, hpre⟩ := hrel
    have Hpre := Lib.hid hpre
    clear hpre
    by_cases hlt : k < n
    · obtain ⟨z, hz⟩ : ∃ z, zs[k]? = some z := ⟨_, List.getElem?_eq_getElem (by rw [Hn.out]; exact hlt)⟩
      obtain ⟨b, off, rfl, _, hc⟩ := zone_at Hr.out hz
      have c0 := hc 0 _ rfl
      have c1 := hc 1 _ rfl
      have c2 := hc 2 _ rfl
      have c3 := hc 3 _ rfl
      have Hz := Lib.hid hz
      clear hz hc
      obtain ⟨lo, hlo⟩ : ∃ x, z.low = x := ⟨_, rfl⟩
      obtain ⟨hi, hhi⟩ : ∃ x, z.high = x := ⟨_, rfl⟩
      obtain ⟨so, hso⟩ : ∃ x, z.soft = x := ⟨_, rfl⟩
      obtain ⟨ha, hha⟩ : ∃ x, z.hard = x := ⟨_, rfl⟩
      rw [hlo] at c0
      rw [hhi] at c1
      rw [hso] at c2
      rw [hha] at c3
      have HB := Lib.hid (show z.fits key hard = (decide (lo ≤ key) && decide (key ≤ hi) && decide (so ≤ hard) && decide (hard ≤ ha)) by unfold ZoneV.fits; rw [hlo, hhi, hso, hha])
      clear hlo hhi hso hha
      rw [Nat.add_zero] at c0
      by_cases hf : lo ≤ key ∧ key ≤ hi ∧ so ≤ hard ∧ hard ≤ ha
      · have Hf := Lib.hid (show z.fits key hard = true by rw [HB.out]; simp [hf])
        obtain ⟨f1, f2, f3, f4⟩ := hf
        go_wp2
        go_ret
        exact ⟨ret_int (by rw [← HF.out]; exact (findZ_at Hz.out Hf.out Hpre.out).symm), rfl⟩
      · have Hf := Lib.hid (show z.fits key hard = false by rw [HB.out]; simp; omega)
        have hf' : key < lo ∨ hi < key ∨ hard < so ∨ ha < hard := by omega
        clear hf
        go_wp2
        all_goals first
          | (exfalso; omega)
          | (go_round
             case rel => exact ⟨k + 1, by omega, by go_num, by rw [all_take_succ _ Hz.out, Hpre.out, Hf.out]; rfl⟩
             case measure => simp [intOf]; omega)
    · have Hall := Lib.hid (all_take_all _ (by rw [Hn.out]; omega) Hpre.out)
      go_wp2
      go_ret
      exact ⟨ret_int (by rw [← HF.out]; exact (findZ_none Hall.out).symm), rfl⟩

set_option maxRecDepth 100000 in
set_option maxHeartbeats 1000000 in
theorem find1_any (z : ZoneV) (g1 g2 : Nat) (key hard : Int) (w : World) (h1 : w.cell? ⟨g1, 0, none⟩ = some (.int .i64 key)) (h2 : w.cell? ⟨g2, 0, none⟩ = some (.int .i64 hard)) :
    Calls Try.prog 51 #[.agg z.cells.toArray, .pointer (some ⟨g1, 0, none⟩), .pointer (some ⟨g2, 0, none⟩)] w fun e w' => e = .returned (.bool (z.fits key hard)) ∧ Below w.heap.size w w' := by
  have hA1 := fun O => cell_alloc h1 O
  have hA2 := fun O => cell_alloc h2 O
  have HB := Lib.hid (show z.fits key hard = (decide (z.low ≤ key) && decide (key ≤ z.high) && decide (z.soft ≤ hard) && decide (hard ≤ z.hard)) from rfl)
  generalize z.fits key hard = F at *
  obtain ⟨lo, hi, so, ha, nm, ro, lu, a, d, s, r⟩ := z
  simp only [ZoneV.cells] at *
  go_enter Try.func51, Try.ntmps51
  go_wp2
  all_goals
    go_ret
    exact ⟨ret_bool (by rw [HB.out, Bool.eq_iff_iff]; simp; omega), bnew _ _⟩
end Go.Proofs.Ytbgkoopfdfnmcaa

namespace Go.Proofs.Ytbgkoopfdfnmcaa
open Go.RowKit

set_option maxRecDepth 100000 in
set_option maxHeartbeats 2000000 in
theorem indexFunc_any (zs : List ZoneV) (A : Option Addr) (cap : Nat) (g1 g2 : Nat) (key hard : Int) (w : World) (hl : zs.length ≤ 1000000) (hr : Row w w.heap.size A (zoneCells zs))
    (h1 : w.cell? ⟨g1, 0, none⟩ = some (.int .i64 key)) (h2 : w.cell? ⟨g2, 0, none⟩ = some (.int .i64 hard)) :
    Calls Try.prog 50 #[.slice A zs.length cap, .func (.func 51) #[] #[.pointer (some ⟨g1, 0, none⟩), .pointer (some ⟨g2, 0, none⟩)]] w
      fun e w' => e = .returned (.int .i64 (findZ key hard zs)) ∧ Below w.heap.size w w' := by
  obtain ⟨n, hn⟩ : ∃ n, zs.length = n := ⟨_, rfl⟩
  have Hn := Lib.hid hn
  have Hr := Lib.hid hr
  rw [hn] at hl ⊢
  clear hn hr
  obtain ⟨F, hF⟩ : ∃ F, findZ key hard zs = F := ⟨_, rfl⟩
  rw [hF]
  have HF := Lib.hid hF
  have G1 := Lib.hid h1
  have G2 := Lib.hid h2
  clear hF h1 h2
  go_enter Try.func50, Try.ntmps50
  go_wp2
  go_loopw [8] (fun i wr => ∃ k : Nat, k ≤ n ∧ i = .int .i64 k ∧ (zs.take k).all (fun z => !z.fits key hard) = true ∧ Below w.heap.size w wr) (fun i _ => n - (intOf i).toNat)
  case atStart => exact ⟨0, Nat.zero_le _, rfl, by simp, Below.refl _ _⟩
  case round =>
    obtain ⟨k, hk, rfl, hpre, hbel⟩ := hrel
    have Hpre := Lib.hid hpre
    have Hbel := Lib.hid hbel
    clear hpre hbel
    by_cases hlt : k < n
    · obtain ⟨z, hz⟩ : ∃ z, zs[k]? = some z := ⟨_, List.getElem?_eq_getElem (by rw [Hn.out]; exact hlt)⟩
      obtain ⟨b, off, rfl, hb, hc⟩ := zone_at (Hr.out.later Hbel.out) hz
      have c0 := hc 0 _ rfl
      have c1 := hc 1 _ rfl
      have c2 := hc 2 _ rfl
      have c3 := hc 3 _ rfl
      have c4 := hc 4 _ rfl
      have c5 := hc 5 _ rfl
      have c6 := hc 6 _ rfl
      have c7 := hc 7 _ rfl
      have c8 := hc 8 _ rfl
      have c9 := hc 9 _ rfl
      have c10 := hc 10 _ rfl
      rw [Nat.add_zero] at c0
      have Hz := Lib.hid hz
      have HC := Lib.hid (find1_any z g1 g2 key hard wr ((Hbel.out.cell (cell_lt G1.out)).trans G1.out) ((Hbel.out.cell (cell_lt G2.out)).trans G2.out))
      clear hz hc hb
      by_cases hf : z.fits key hard = true
      · have Hf := Lib.hid hf
        clear hf
        go_wp2_with (go_at_call 51; refine HC.out.mono ?_; rintro e w1 ⟨rfl, hb1⟩; rw [Hf.out])
        go_ret
        exact ⟨ret_int (by rw [← HF.out]; exact (findZ_at Hz.out Hf.out Hpre.out).symm), bnext Hbel.out hb1⟩
      · have Hf := Lib.hid (show z.fits key hard = false by simpa using hf)
        clear hf
        go_wp2_with (go_at_call 51; refine HC.out.mono ?_; rintro e w1 ⟨rfl, hb1⟩; rw [Hf.out])
        go_roundw
        case rel => exact ⟨k + 1, by omega, by go_num, by rw [all_take_succ _ Hz.out, Hpre.out, Hf.out]; rfl, bnext Hbel.out hb1⟩
        case measure => simp [intOf]; omega
    · have Hall := Lib.hid (all_take_all _ (by rw [Hn.out]; omega) Hpre.out)
      go_wp2
      go_ret
      exact ⟨ret_int (by rw [← HF.out]; exact (findZ_none Hall.out).symm), Hbel.out⟩

/-- a kit in memory: its zones -/
def KitAt (w : World) (g : Nat) (zs : List ZoneV) : Prop := ∃ A cap, w.cell? ⟨g, 0, none⟩ = some (.slice A zs.length cap) ∧ zs.length ≤ cap ∧ cap ≤ 9223372036854775807 ∧ Row w w.heap.size A (zoneCells zs)
theorem KitAt.later {w w' : World} {g : Nat} {zs : List ZoneV} (h : KitAt w g zs) (hb : Below w.heap.size w w') : KitAt w' g zs := by
  obtain ⟨A, cap, h1, h2, h3, h4⟩ := h
  exact ⟨A, cap, (hb.cell (cell_lt h1)).trans h1, h2, h3, h4.later hb⟩

set_option maxHeartbeats 1000000 in
theorem kitFind_nil (key hard : Int) (w : World) : Calls Try.prog 31 #[.pointer none, .int .i64 key, .int .i64 hard] w fun e w' => e = .returned (.int .i64 (-1)) ∧ Below w.heap.size w w' := by
  go_enter Try.func31, Try.ntmps31
  go_wp2
  go_ret
  exact ⟨rfl, bnext (bnew _ _) (bnew _ _)⟩

set_option maxHeartbeats 1000000 in
theorem kitFind_any (zs : List ZoneV) (g : Nat) (key hard : Int) (w : World) (hl : zs.length ≤ 1000000) (hk : KitAt w g zs) :
    Calls Try.prog 31 #[.pointer (some ⟨g, 0, none⟩), .int .i64 key, .int .i64 hard] w fun e w' => e = .returned (.int .i64 (findZ key hard zs)) ∧ Below w.heap.size w w' := by
  obtain ⟨A, cap, h1, h2, h3, h4⟩ := hk
  have hA := fun O => cell_alloc h1 O
  have hA2 := fun O O' => cell_alloc (cell_alloc h1 O) O'
  have HQ := Lib.hid (fun W (hW : Below w.heap.size w W) (k1 : W.cell? ⟨w.heap.size, 0, none⟩ = some (.int .i64 key)) (k2 : W.cell? ⟨w.heap.size + 1, 0, none⟩ = some (.int .i64 hard)) => indexFunc_any zs A cap w.heap.size (w.heap.size + 1) key hard W hl (h4.later hW) k1 k2)
  clear h2 h3 h4
  go_enter Try.func31, Try.ntmps31
  go_wp2_with (go_at_call 50; refine (HQ.out _ (bnext (bnew _ _) (bnew _ _)) (by simp) (by simp)).mono ?_; rintro e w1 ⟨rfl, hb⟩)
  go_ret
  exact ⟨rfl, bnext (bnext (bnew _ _) (bnew _ _)) hb⟩
end Go.Proofs.Ytbgkoopfdfnmcaa

namespace Go.Proofs.Ytbgkoopfdfnmcaa
open Go.RowKit

/-- does a key play something? -/
def playsZ (zs : List ZoneV) (key : Int) : Bool := (List.range 127).any fun h => decide (0 ≤ findZ key (((h + 1 : Nat) : Int)) zs)
def gapFrom (a : Int) (m : Nat) : List Int := (List.range m).map fun (i : Nat) => a + (i : Int)
/-- the keys from one to another one that play nothing -/
def gapZ (zs : List ZoneV) (f t : Int) : List Int := (gapFrom (max f 0) (min t 127 + 1 - max f 0).toNat).filter fun x => !playsZ zs x

theorem any_range_false (p : Nat → Bool) (n : Nat) (h : ∀ i, i < n → p i = false) : (List.range n).any p = false := by
  rw [List.any_eq_false]
  intro x hx
  simp [h x (List.mem_range.1 hx)]
theorem any_range_true (p : Nat → Bool) (n i : Nat) (hi : i < n) (h : p i = true) : (List.range n).any p = true := by
  rw [List.any_eq_true]
  exact ⟨i, List.mem_range.2 hi, h⟩

set_option maxRecDepth 100000 in
set_option maxHeartbeats 1000000 in
theorem plays_any (zs : List ZoneV) (g : Nat) (key : Int) (w : World) (hl : zs.length ≤ 1000000) (hk : KitAt w g zs) :
    Calls Try.prog 53 #[.pointer (some ⟨g, 0, none⟩), .int .i64 key] w fun e w' => e = .returned (.bool (playsZ zs key)) ∧ Below w.heap.size w w' := by
  have HK := Lib.hid (fun W (hW : Below w.heap.size w W) hard => kitFind_any zs g key hard W hl (hk.later hW))
  clear hk
  obtain ⟨F, hF⟩ : ∃ F, playsZ zs key = F := ⟨_, rfl⟩
  rw [hF]
  have HF := Lib.hid hF
  clear hF
  go_enter Try.func53, Try.ntmps53
  go_wp2
  go_loopw [5] (fun i wr => ∃ h : Nat, h ≤ 127 ∧ i = .int .i64 (((h + 1 : Nat) : Int)) ∧ (∀ j, j < h → decide (0 ≤ findZ key (((j + 1 : Nat) : Int)) zs) = false) ∧ Below w.heap.size w wr) (fun i _ => 128 - (intOf i).toNat)
  case atStart => exact ⟨0, by omega, rfl, fun j hj => by omega, Below.refl _ _⟩
  case round =>
    obtain ⟨h, hh, rfl, hpre, hbel⟩ := hrel
    have Hpre := Lib.hid hpre
    have Hbel := Lib.hid hbel
    clear hpre hbel
    by_cases hlt : h < 127
    · obtain ⟨V, hV⟩ : ∃ V, findZ key (((h + 1 : Nat) : Int)) zs = V := ⟨_, rfl⟩
      have HV := Lib.hid hV
      have HQ := Lib.hid (HK.out _ Hbel.out (((h + 1 : Nat) : Int)))
      rw [hV] at HQ
      rw [show (((h + 1 : Nat) : Int)) = (h : Int) + 1 by omega] at HQ ⊢
      clear hV
      by_cases hv : 0 ≤ V
      · go_wp2_with (go_at_call 31; refine HQ.out.mono ?_; rintro e w1 ⟨rfl, hb1⟩)
        go_ret
        exact ⟨ret_bool (by rw [← HF.out]; exact (any_range_true _ 127 h hlt (by rw [HV.out]; exact decide_eq_true hv)).symm), bnext Hbel.out hb1⟩
      · go_wp2_with (go_at_call 31; refine HQ.out.mono ?_; rintro e w1 ⟨rfl, hb1⟩)
        go_roundw
        case rel => exact ⟨h + 1, by omega, by go_num, fun j hj => by
          rcases Nat.lt_or_ge j h with h1 | h1
          · exact Hpre.out j h1
          · obtain rfl : j = h := by omega
            rw [HV.out]; exact decide_eq_false (by omega), bnext Hbel.out hb1⟩
        case measure => simp [intOf]; omega
    · obtain rfl : h = 127 := by omega
      go_wp2
      go_ret
      exact ⟨ret_bool (by rw [← HF.out]; exact (any_range_false _ 127 Hpre.out).symm), Hbel.out⟩

def GapPost (W : World) (xs : List Int) (e : Ending) (w' : World) : Prop := ∃ A c, e = .returned (.slice A xs.length c) ∧ xs.length ≤ c ∧ c ≤ 9223372036854775807 ∧ Row w' w'.heap.size A (xs.map (.int .i64)) ∧ Below W.heap.size W w'
theorem inf_int : (Try.prog.info? 3).map (fun i => (i.zero, i.size, i.bytes)) = some (some (.int .i64 0), 1, 8) := by kernel_rfl

/-- what is owned stays owned in a world that grew -/
theorem own_below {w w' : World} {base : Nat} {e : TypeId} {size n : Nat} {v : Value} {xs : List Value} (h : w.ownsRow base e size v n xs) (hb : Below w.heap.size w w') : w'.ownsRow base e size v n xs := by
  obtain ⟨h1, h2⟩ := h
  refine ⟨h1, ?_⟩
  rcases h2 with h2 | ⟨g, cap, cur, hv, hg, hh, r⟩
  · exact .inl h2
  · have hlt : g < w.heap.size := by
      rcases Nat.lt_or_ge g w.heap.size with h | h
      · exact h
      · rw [Array.getElem?_eq_none h] at hh; cases hh
    exact .inr ⟨g, cap, cur, hv, hg, (hb.block g hlt).trans hh, r⟩
theorem own_len {w : World} {base : Nat} {e : TypeId} {size n c : Nat} {A : Option Addr} {xs : List Value} (h : w.ownsRow base e size (.slice A n c) n xs) : n ≤ c := by
  obtain ⟨A', c', h1, h2, _⟩ := own_form h
  injection h1 with _ _ h3
  omega
theorem gap_succ (zs : List ZoneV) (a : Int) (m : Nat) : (gapFrom a (m + 1)).filter (fun x => !playsZ zs x) = (gapFrom a m).filter (fun x => !playsZ zs x) ++ (if playsZ zs (a + m) = true then [] else [a + m]) := by
  unfold gapFrom
  rw [List.range_succ, List.map_append, List.filter_append]
  congr 1
  cases h : playsZ zs (a + m) <;> simp [h]
theorem gap_len (zs : List ZoneV) (a : Int) (m : Nat) : ((gapFrom a m).filter (fun x => !playsZ zs x)).length ≤ m := by
  have := List.length_filter_le (fun x => !playsZ zs x) (gapFrom a m)
  simpa [gapFrom] using this

set_option maxRecDepth 100000 in
set_option maxHeartbeats 2000000 in
theorem gap_any (zs : List ZoneV) (g : Nat) (f t : Int) (w : World) (hl : zs.length ≤ 1000000) (hk : KitAt w g zs) :
    Calls Try.prog 35 #[.pointer (some ⟨g, 0, none⟩), .int .i64 f, .int .i64 t] w (GapPost w (gapZ zs f t)) := by
  obtain ⟨i0, hi, hz0, hz1, hz2⟩ := info_parts inf_int
  have HK := Lib.hid (fun W (hW : Below w.heap.size w W) key => plays_any zs g key W hl (hk.later hW))
  clear hk
  have hf : f < 0 ∨ 0 ≤ f := by omega
  have ht : t < 127 ∨ 127 ≤ t := by omega
  obtain ⟨G, hG⟩ : ∃ G, gapZ zs f t = G := ⟨_, rfl⟩
  rw [hG]
  have HG := Lib.hid hG
  clear hG
  rcases hf with hf | hf
  all_goals rcases ht with ht | ht
  all_goals
    go_enter Try.func35, Try.ntmps35
    go_wp2
    go_loopw [7, 8] (fun o i wr => ∃ (kk : Int) (m : Nat) (xs : List Int) (A : Option Addr) (c : Nat), i = .int .i64 kk ∧ kk = max f 0 + m ∧ m ≤ (min t 127 + 1 - max f 0).toNat ∧ xs = (gapFrom (max f 0) m).filter (fun x => !playsZ zs x) ∧ o = .slice A xs.length c ∧ c ≤ 9223372036854775807 ∧
        wr.ownsRow w.heap.size 3 1 (.slice A xs.length c) xs.length (xs.map (.int .i64)) ∧ Below w.heap.size w wr) (fun _ i _ => (min t 127 + 1 - intOf i).toNat)
    case atStart => exact ⟨_, 0, [], none, 0, rfl, by omega, by omega, rfl, rfl, by omega, World.ownsRow_nil _ _ _ _, Below.refl _ _⟩
    case round =>
      obtain ⟨kk, m, xs, A, c, rfl, hkk, hm, hxs, rfl, hc63, hown, hbel⟩ := hrel
      have hlen : xs.length ≤ m := by rw [hxs]; exact gap_len _ _ _
      have Hxs := Lib.hid hxs
      have Hown := Lib.hid hown
      have Hbel := Lib.hid hbel
      have Hge := Lib.hid (own_block_ge hown)
      have Hkk := Lib.hid hkk
      clear hxs hown hbel
      by_cases hc : kk ≤ min t 127
      · have hk0 : 0 ≤ kk := by omega
        have hm2 : m < (min t 127 + 1 - max f 0).toNat := by omega
        have hm3 : m ≤ 127 := by omega
        clear hkk
        obtain ⟨P, hP⟩ : ∃ P, playsZ zs kk = P := ⟨_, rfl⟩
        have HP := Lib.hid hP
        have HQ := Lib.hid (HK.out _ Hbel.out kk)
        rw [hP] at HQ
        clear hP
        cases P
        · go_wp2_with (first | (go_at_call 53; refine HQ.out.mono ?_; rintro e w1 ⟨rfl, hb1⟩; have own1 := own_below Hown.out hb1) | (at_builtin; refine wpList_app _ rfl (.tmp 21) (.tmp 23) 79 rfl w.heap.size 3 i0 (.int .i64 0) 1 8 Try.underlying79 hi hz0 hz1 hz2 rfl (by omega) _ xs.length (xs.map (.int .i64)) rfl (own1.alloc _) (w1.heap.size + 1) (some ⟨w1.heap.size, 0, none⟩) 1 1 [.int .i64 kk] rfl rfl (Row.new w1 _ _) (fun u hu => by simp at hu; subst hu; rfl) (by omega) (by omega) (by have := Hbel.out.size; have := hb1.size; simp; omega) ?_; intro A' cc w2 hown2 hgrow hat hcc))
          go_roundw
          case rel =>
            have hb2 : Below w.heap.size w w2 := ((bnext Hbel.out hb1).alloc (by have := Hbel.out.size; have := hb1.size; omega) _).grown hgrow (by have := Hbel.out.size; have := hb1.size; simp; omega) (fun g h => Hge.out g h)
            have hcm : cc ≤ 9223372036854775807 := own_cap hown2
            exact ⟨kk + 1, m + 1, xs ++ [kk], A', cc, by go_num, by have := Hkk.out; omega, by omega, by rw [gap_succ, ← Hxs.out, ← Hkk.out, HP.out]; rfl, by simp, hcm, by simpa using hown2, hb2⟩
          case measure => simp [intOf]; omega
        · go_wp2_with (go_at_call 53; refine HQ.out.mono ?_; rintro e w1 ⟨rfl, hb1⟩)
          go_roundw
          case rel => exact ⟨kk + 1, m + 1, xs, A, c, by go_num, by have := Hkk.out; omega, by omega, by rw [gap_succ, ← Hxs.out, ← Hkk.out, HP.out]; simp, rfl, hc63, own_below Hown.out hb1, bnext Hbel.out hb1⟩
          case measure => simp [intOf]; omega
      · have hm2 : m = (min t 127 + 1 - max f 0).toNat := by omega
        have HM := Lib.hid hm2
        clear hkk hm2
        have He := Lib.hid (show G = xs by rw [← HG.out, Hxs.out, HM.out]; rfl)
        go_wp2
        all_goals
          go_ret
          rw [He.out]
          exact ⟨A, c, rfl, (own_len Hown.out), hc63, Row.of_own Hown.out, Hbel.out⟩
end Go.Proofs.Ytbgkoopfdfnmcaa
