/- Contracts of slices.Clone at layer 38's zones, of New, and of layer 22's Plain; conditions: as each theorem states. -/
import Derived.Test.YtbgkoopfdfnmcaaKitE
import Derived.WalkSpells
namespace Go.Proofs.Ytbgkoopfdfnmcaa
open Go.RowKit

theorem plain_any (w : World) : Calls Try.prog 34 #[] w fun e w' => e = .returned (.agg #[.int .i64 0, .int .i64 0, .int .i64 256, .int .i64 0]) ∧ Below w.heap.size w w' := by
  go_enter Try.func34, Try.ntmps34
  go_wp2
  go_returns
  exact ⟨rfl, bnew _ _⟩

theorem own_empty (w : World) (e : TypeId) (size : Nat) : (w.alloc (.cells #[] e)).ownsRow w.heap.size e size (.slice (some ⟨w.heap.size, 0, none⟩) 0 0) 0 [] := by
  refine ⟨by simp, .inr ⟨w.heap.size, 0, #[], rfl, Nat.le_refl _, heap_alloc_new w _, Nat.le_refl _, by simp [maxLen], by simp, by simp⟩⟩
theorem inf_zone : (Try.prog.info? 67).map (fun i => (i.zero, i.size, i.bytes)) = some (some (.agg #[.int .i64 0, .int .i64 0, .int .i64 0, .int .i64 0, .string ⟨#[]⟩, .int .i64 0, .int .i64 0, .int .i64 0, .int .i64 0, .int .i64 0, .int .i64 0]), 11, 96) := by kernel_rfl
theorem zone_one (zs : List ZoneV) : ∀ u ∈ zoneCells zs, u.oneCell' = true := by
  intro u hu
  unfold zoneCells at hu
  obtain ⟨cs, hcs, hu⟩ := List.mem_flatten.1 hu
  obtain ⟨z, _, rfl⟩ := List.mem_map.1 hcs
  simp only [ZoneV.cells, List.mem_cons, List.not_mem_nil, or_false] at hu
  rcases hu with rfl | rfl | rfl | rfl | rfl | rfl | rfl | rfl | rfl | rfl | rfl <;> rfl

def ZonesPost (W : World) (zs : List ZoneV) (e : Ending) (w' : World) : Prop := ∃ A c, e = .returned (.slice A zs.length c) ∧ zs.length ≤ c ∧ c ≤ 9223372036854775807 ∧ Row w' w'.heap.size A (zoneCells zs) ∧ (∀ ad, A = some ad → W.heap.size ≤ ad.block) ∧ Below W.heap.size W w'

set_option maxRecDepth 100000 in
set_option maxHeartbeats 1000000 in
theorem cloneZ_any (zs : List ZoneV) (A : Option Addr) (cap : Nat) (w : World) (hl : zs.length ≤ 1000000) (hn : A = none → cap = 0) (hr : Row w w.heap.size A (zoneCells zs)) :
    Calls Try.prog 49 #[.slice A zs.length cap] w (ZonesPost w zs) := by
  obtain ⟨i0, hi, hz0, hz1, hz2⟩ := info_parts inf_zone
  have hq := fun (W : World) (a : Option Addr) (n c : Nat) => Lib.run_eql_slice_nil (P := Try.prog) W 22 67 a n c 0 0 Try.underlying22
  rcases A with _ | ad
  · have h0 : zs = [] := by
      cases zs with
      | nil => rfl
      | cons z r => obtain ⟨b, off, h, _⟩ := hr 0 (.int .i64 z.low) rfl; cases h
    subst h0
    obtain rfl := hn rfl
    go_enter Try.func49, Try.ntmps49
    go_wp2
    go_ret
    exact ⟨none, 0, rfl, Nat.le_refl _, by omega, Row.none_ _ _ _, nofun, Below.refl _ _⟩
  · clear hn
    have Hr := Lib.hid hr
    have HL := Lib.hid (zones_len zs)
    clear hr
    obtain ⟨n, hn⟩ : ∃ n, zs.length = n := ⟨_, rfl⟩
    have Hn := Lib.hid hn
    rw [hn] at hl ⊢
    clear hn
    go_enter Try.func49, Try.ntmps49
    go_wp2_with (at_builtin; refine wpList_app _ rfl (.tmp 5) (.tmp 6) 22 rfl w.heap.size 67 i0 _ 11 96 Try.underlying22 hi hz0 hz1 hz2 rfl (by omega) _ 0 [] rfl (own_empty w _ _) w.heap.size (some ad) n cap (zoneCells zs) rfl (by rw [HL.out, Hn.out]) (Hr.out.below (bnew _ _)) (zone_one zs) (by omega) (by omega) (by simp) ?_; intro A' cc w2 hown2 hgrow hat hcc)
    go_ret
    rw [Nat.zero_add] at hown2 hcc
    exact ⟨A', cc, by rw [Hn.out]; rfl, by rw [Hn.out]; exact hcc, own_cap hown2, Row.of_own hown2, fun ad' had => own_block_ge hown2 ad'.block (by rw [had]; rfl), (bnew _ _).grown hgrow (by simp) (own_block_ge (own_empty w 67 11))⟩
end Go.Proofs.Ytbgkoopfdfnmcaa
