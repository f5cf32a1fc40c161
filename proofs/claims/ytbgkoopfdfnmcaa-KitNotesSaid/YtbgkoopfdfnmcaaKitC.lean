/- Contracts of layer 38's Find and of the law's own find; conditions: as each theorem states. -/
import Derived.Test.YtbgkoopfdfnmcaaKitB
namespace Go.Proofs.Ytbgkoopfdfnmcaa
open Go.RowKit

def zoneCells (zs : List ZoneV) : List Value := (zs.map ZoneV.cells).flatten
theorem cells_len (z : ZoneV) : z.cells.length = 11 := rfl
theorem zone_get (zs : List ZoneV) {k : Nat} {z : ZoneV} (h : zs[k]? = some z) (j : Nat) (hj : j < 11) : (zoneCells zs)[k * 11 + j]? = z.cells[j]? := by
  unfold zoneCells
  rw [flat_get 11 (zs.map ZoneV.cells) (fun cs hcs => by obtain ⟨z, _, rfl⟩ := List.mem_map.1 hcs; rfl) k j hj]
  simp [h]
theorem zones_len (zs : List ZoneV) : (zoneCells zs).length = zs.length * 11 := by
  unfold zoneCells
  rw [flat_len 11 (zs.map ZoneV.cells) (fun cs hcs => by obtain ⟨z, _, rfl⟩ := List.mem_map.1 hcs; rfl), List.length_map]
/-- a zone of a row of zones -/
theorem zone_at {w : World} {B : Nat} {A : Option Addr} {zs : List ZoneV} (hr : Row w B A (zoneCells zs)) {k : Nat} {z : ZoneV} (h : zs[k]? = some z) :
    ∃ b off, A = some ⟨b, off, none⟩ ∧ b < B ∧ ∀ j v, z.cells[j]? = some v → w.cell? ⟨b, off + k * 11 + j, none⟩ = some v := by
  have h0 := zone_get zs h 0 (by omega)
  obtain ⟨b, off, hA, hb, _⟩ := hr (k * 11 + 0) (.int .i64 z.low) h0
  refine ⟨b, off, hA, hb, fun j v hv => ?_⟩
  have hj : j < 11 := by have := (List.getElem?_eq_some_iff.1 hv).1; rwa [cells_len] at this
  have h1 := zone_get zs h j hj
  rw [hv] at h1
  obtain ⟨b', off', hA', _, hc⟩ := hr (k * 11 + j) v h1
  rw [hA] at hA'
  injection hA' with hA'
  injection hA' with e1 e2
  subst e1 e2
  rw [Nat.add_assoc]; exact hc

/-- does a zone fit? -/
def ZoneV.fits (key hard : Int) (z : ZoneV) : Bool := decide (z.low ≤ key) && decide (key ≤ z.high) && decide (z.soft ≤ hard) && decide (hard ≤ z.hard)
/-- the first zone that fits; -1: none -/
def findZ (key hard : Int) (zs : List ZoneV) : Int := match zs.findIdx? (ZoneV.fits key hard) with | some i => i | none => -1
theorem findZ_at {key hard : Int} {zs : List ZoneV} {k : Nat} {z : ZoneV} (h : zs[k]? = some z) (hf : z.fits key hard = true) (hpre : (zs.take k).all (fun z => !z.fits key hard) = true) : findZ key hard zs = k := by
  unfold findZ
  have : zs.findIdx? (ZoneV.fits key hard) = some k := by
    rw [List.findIdx?_eq_some_iff_getElem]
    obtain ⟨hk, rfl⟩ := List.getElem?_eq_some_iff.1 h
    refine ⟨hk, hf, fun j hj => ?_⟩
    have := List.all_eq_true.1 hpre zs[j] (by rw [List.mem_take_iff_getElem]; exact ⟨j, by omega, rfl⟩)
    simpa using this
  rw [this]
theorem findZ_none {key hard : Int} {zs : List ZoneV} (h : zs.all (fun z => !z.fits key hard) = true) : findZ key hard zs = -1 := by
  unfold findZ
  have : zs.findIdx? (ZoneV.fits key hard) = none := by
    rw [List.findIdx?_eq_none_iff]
    intro x hx
    have := List.all_eq_true.1 h x hx
    simpa using this
  rw [this]

set_option maxHeartbeats 2000000 in
theorem lawfind_any (zs : List ZoneV) (A : Option Addr) (cap : Nat) (key hard : Int) (w : World) (hl : zs.length ≤ 1000000) (hr : Row w w.heap.size A (zoneCells zs)) :
    Calls Try.prog 30 #[.slice A zs.length cap, .int .i64 key, .int .i64 hard] w fun e w' => e = .returned (.int .i64 (findZ key hard zs)) ∧ w = w' := by
  obtain ⟨n, hn⟩ : ∃ n, zs.length = n := ⟨_, rfl⟩
  have Hn := Lib.hid hn
  have Hr := Lib.hid hr
  rw [hn] at hl ⊢
  clear hn hr
  obtain ⟨F, hF⟩ : ∃ F, findZ key hard zs = F := ⟨_, rfl⟩
  rw [hF]
  have HF := Lib.hid hF
  clear hF
  go_enter Try.func30, Try.ntmps30
  go_wp2
  go_loop [7] (fun i => ∃ k : Nat, k ≤ n ∧ i = .int .i64 k ∧ (zs.take k).all (fun z => !z.fits key hard) = true) (fun i => n - (intOf i).toNat)
  case atStart => exact ⟨0, Nat.zero_le _, rfl, by simp⟩
  case round =>
    obtain ⟨k, hk, rfl, hpre⟩ := hrel
    have Hpre := Lib.hid hpre
    clear hpre
    by_cases hlt : k < n
    · obtain ⟨z, hz⟩ : ∃ z, zs[k]? = some z := ⟨_, List.getElem?_eq_getElem (by rw [Hn.out]; exact hlt)⟩
      obtain ⟨b, off, rfl, _, hc⟩ := zone_at Hr.out hz
      have c0 := hc 0 _ rfl
      have c1 := hc 1 _ rfl
      have c2 := hc 2 _ rfl
      have c3 := hc 3 _ rfl
      have Hz := Lib.hid hz
      clear hz hc
      obtain ⟨lo, hlo⟩ : ∃ x, z.low = x := ⟨_, rfl⟩
      obtain ⟨hi, hhi⟩ : ∃ x, z.high = x := ⟨_, rfl⟩
      obtain ⟨so, hso⟩ : ∃ x, z.soft = x := ⟨_, rfl⟩
      obtain ⟨ha, hha⟩ : ∃ x, z.hard = x := ⟨_, rfl⟩
      rw [hlo] at c0
      rw [hhi] at c1
      rw [hso] at c2
      rw [hha] at c3
      have HB := Lib.hid (show z.fits key hard = (decide (lo ≤ key) && decide (key ≤ hi) && decide (so ≤ hard) && decide (hard ≤ ha)) by unfold ZoneV.fits; rw [hlo, hhi, hso, hha])
      clear hlo hhi hso hha
      rw [Nat.add_zero] at c0
      by_cases hf : lo ≤ key ∧ key ≤ hi ∧ so ≤ hard ∧ hard ≤ ha
      · have Hf := Lib.hid (show z.fits key hard = true by rw [HB.out]; simp [hf])
        obtain ⟨f1, f2, f3, f4⟩ := hf
        go_wp2
        go_ret
        exact ⟨ret_int (by rw [← HF.out]; exact (findZ_at Hz.out Hf.out Hpre.out).symm), rfl⟩
      · have Hf := Lib.hid (show z.fits key hard = false by rw [HB.out]; simp; omega)
        have hf' : key < lo ∨ hi < key ∨ hard < so ∨ ha < hard := by omega
        clear hf
        go_wp2
        all_goals first
          | (exfalso; omega)
          | (go_round
             case rel => exact ⟨k + 1, by omega, by go_num, by rw [all_take_succ _ Hz.out, Hpre.out, Hf.out]; rfl⟩
             case measure => simp [intOf]; omega)
    · have Hall := Lib.hid (all_take_all _ (by rw [Hn.out]; omega) Hpre.out)
      go_wp2
      go_ret
      exact ⟨ret_int (by rw [← HF.out]; exact (findZ_none Hall.out).symm), rfl⟩

set_option maxRecDepth 100000 in
set_option maxHeartbeats 1000000 in
theorem find1_any (z : ZoneV) (g1 g2 : Nat) (key hard : Int) (w : World) (h1 : w.cell? ⟨g1, 0, none⟩ = some (.int .i64 key)) (h2 : w.cell? ⟨g2, 0, none⟩ = some (.int .i64 hard)) :
    Calls Try.prog 51 #[.agg z.cells.toArray, .pointer (some ⟨g1, 0, none⟩), .pointer (some ⟨g2, 0, none⟩)] w fun e w' => e = .returned (.bool (z.fits key hard)) ∧ Below w.heap.size w w' := by
  have hA1 := fun O => cell_alloc h1 O
  have hA2 := fun O => cell_alloc h2 O
  have HB := Lib.hid (show z.fits key hard = (decide (z.low ≤ key) && decide (key ≤ z.high) && decide (z.soft ≤ hard) && decide (hard ≤ z.hard)) from rfl)
  generalize z.fits key hard = F at *
  obtain ⟨lo, hi, so, ha, nm, ro, lu, a, d, s, r⟩ := z
  simp only [ZoneV.cells] at *
  go_enter Try.func51, Try.ntmps51
  go_wp2
  all_goals
    go_ret
    exact ⟨ret_bool (by rw [HB.out, Bool.eq_iff_iff]; simp; omega), bnew _ _⟩
end Go.Proofs.Ytbgkoopfdfnmcaa
