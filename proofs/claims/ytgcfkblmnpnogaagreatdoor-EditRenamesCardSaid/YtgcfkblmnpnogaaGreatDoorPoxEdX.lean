/- EdX. Conditions: as each theorem states. -/
import Derived.Test.YtgcfkblmnpnogaaGreatDoorPo46
import Derived.Test.YtgcfkblmnpnogaaGreatDoorPo45
namespace Go.Proofs.YtgcfkblmnpnogaaGreatDoor
open Go.RowKit Go.Lib
/-! Names of a built image's samples. -/
def nAt (N : List ByteArray) (nm : ByteArray) : Nat := (N.takeWhile fun x => nameLt x nm).length
def nAtB (N : List ByteArray) (nm : ByteArray) : Bool := match N[nAt N nm]? with
 | some x => x.toList == nm.toList
 | none => false
theorem atZ_names (Z : List RawV) (nm : ByteArray) : atZ Z nm = nAt (Z.map (·.m.name)) nm := by
 unfold atZ nAt
 rw [List.takeWhile_map, List.length_map]
 rfl
theorem atB_names (Z : List RawV) (nm : ByteArray) : atB Z nm = nAtB (Z.map (·.m.name)) nm := by
 unfold atB nAtB
 rw [← atZ_names, List.getElem?_map]
 cases Z[atZ Z nm]? <;> rfl
theorem allZ_names (size : Nat) (D : List MetaV) (FR : List (List Nat)) : ∀ m, m ≤ D.length → (allZ size D FR m).map (·.m.name) = (D.take m).map (·.name)
 | 0, _ => rfl
 | m + 1, hm => by
  obtain ⟨y, hy⟩ : ∃ y, D[m]? = some y := ⟨_, List.getElem?_eq_getElem (by omega)⟩
  rw [allZ_succ (bldDir_get hy), List.map_append, allZ_names size D FR m (by omega), List.take_add_one, hy, List.map_append]
  rfl
theorem all_names (size : Nat) (D : List MetaV) (FR : List (List Nat)) : (allZ size D FR D.length).map (·.m.name) = D.map (·.name) := by
 rw [allZ_names size D FR D.length (Nat.le_refl _), List.take_of_length_le (Nat.le_refl _)]
theorem bldDir_names (size : Nat) (D : List MetaV) : (bldDir size D).map (·.name) = D.map (·.name) := by
 refine List.ext_getElem? fun i => ?_
 rw [List.getElem?_map, List.getElem?_map]
 by_cases hi : i < D.length
 ·rw [bldDir_get (List.getElem?_eq_getElem hi), List.getElem?_eq_getElem hi]
  rfl
 ·rw [List.getElem?_eq_none (by rw [bldDir_len]; omega), List.getElem?_eq_none (by omega)]
theorem nAtB_of {N : List ByteArray} {nm : ByteArray} (h : N[nAt N nm]? = some nm) : nAtB N nm = true := by
 unfold nAtB
 rw [h]
 exact beq_self_eq_true _
/-! Two samples that were made. -/
theorem blk_row {w : World} {g B : Nat} {t : TypeId} {xs : List Value} (h : Blk w g t xs) (hB : g < B) : Row w B (some ⟨g, 0, none⟩) xs := fun i v hv => ⟨g, 0, rfl, hB, by rw [Nat.zero_add, blk_cells h]; exact hv⟩
theorem one_fits {w : World} {B g1 g2 : Nat} {nm : ByteArray} {x : Int} {t1 t2 : TypeId} (h1 : Blk w g1 t1 [.int .i64 x]) (h2 : Blk w g2 t2 [.slice (some ⟨g1, 0, none⟩) 1 1]) (b1 : g1 < B) (b2 : g2 < B) : (oneH nm g2).fits w B (oneS nm [x]) := by
 refine ⟨⟨rfl, rfl, rfl, rfl, rfl, rfl⟩, Nat.le_refl _, by show (1 : Nat) ≤ _; omega, [.slice (some ⟨g1, 0, none⟩) 1 1], blk_row h2 b2, rfl, fun i v ys hv hy => ?_⟩
 cases i with
 | zero =>
  simp [oneS] at hv hy
  subst hv hy
  exact ⟨_, 1, rfl, by simp, by omega, blk_row h1 b1⟩
 | succ i => simp at hv
def ex29w (w : World) : World := ((((w.alloc (.cells #[.int .i64 1] 3)).alloc (.cells #[.slice (some ⟨w.heap.size, 0, none⟩) 1 1] 94)).alloc (.cells #[.int .i64 2] 3)).alloc (.cells #[.slice (some ⟨w.heap.size + 2, 0, none⟩) 1 1] 94)).alloc (.cells #[.string ⟨#[97]⟩, .int .i64 1, .bool false, .int .i64 0, .int .i64 0, .slice (some ⟨w.heap.size + 1, 0, none⟩) 1 1, .string ⟨#[98]⟩, .int .i64 1, .bool false, .int .i64 0, .int .i64 0, .slice (some ⟨w.heap.size + 3, 0, none⟩) 1 1] 92)
def ex29L (w : World) : List (HSamp × SampV) := [(oneH ⟨#[97]⟩ (w.heap.size + 1), oneS ⟨#[97]⟩ [1]), (oneH ⟨#[98]⟩ (w.heap.size + 3), oneS ⟨#[98]⟩ [2])]
theorem ex29_size (w : World) : (ex29w w).heap.size = w.heap.size + 5 := by simp [ex29w]
theorem ex29_below (w : World) : Below w.heap.size w (ex29w w) := by
 unfold ex29w
 exact bnext (bnext (bnext (bnext (bnew _ _) (bnew _ _)) (bnew _ _)) (bnew _ _)) (bnew _ _)
theorem ex29_at (w : World) : SampsAt (ex29w w) (ex29w w).heap.size (some ⟨w.heap.size + 4, 0, none⟩) (ex29L w) := by
 have k0 : Blk (ex29w w) w.heap.size 3 [.int .i64 1] := ((((Blk.new w 3 [.int .i64 1]).alloc _).alloc _).alloc _).alloc _
 have k1 : Blk (ex29w w) (w.heap.size + 1) 94 [.slice (some ⟨w.heap.size, 0, none⟩) 1 1] := by
  have h := Blk.new (w.alloc (.cells #[.int .i64 1] 3)) 94 [.slice (some ⟨w.heap.size, 0, none⟩) 1 1]
  rw [World.size_alloc] at h
  exact ((h.alloc _).alloc _).alloc _
 have k2 : Blk (ex29w w) (w.heap.size + 2) 3 [.int .i64 2] := by
  have h := Blk.new ((w.alloc (.cells #[.int .i64 1] 3)).alloc (.cells #[.slice (some ⟨w.heap.size, 0, none⟩) 1 1] 94)) 3 [.int .i64 2]
  simp only [World.size_alloc] at h
  exact (h.alloc _).alloc _
 have k3 : Blk (ex29w w) (w.heap.size + 3) 94 [.slice (some ⟨w.heap.size + 2, 0, none⟩) 1 1] := by
  have h := Blk.new (((w.alloc (.cells #[.int .i64 1] 3)).alloc (.cells #[.slice (some ⟨w.heap.size, 0, none⟩) 1 1] 94)).alloc (.cells #[.int .i64 2] 3)) 94 [.slice (some ⟨w.heap.size + 2, 0, none⟩) 1 1]
  simp only [World.size_alloc] at h
  exact h.alloc _
 have k4 : Blk (ex29w w) (w.heap.size + 4) 92 (headCells (ex29L w)) := by
  have h := Blk.new ((((w.alloc (.cells #[.int .i64 1] 3)).alloc (.cells #[.slice (some ⟨w.heap.size, 0, none⟩) 1 1] 94)).alloc (.cells #[.int .i64 2] 3)).alloc (.cells #[.slice (some ⟨w.heap.size + 2, 0, none⟩) 1 1] 94)) 92 (headCells (ex29L w))
  simp only [World.size_alloc] at h
  exact h
 have hs := ex29_size w
 refine ⟨blk_row k4 (by omega), fun p hp => ?_⟩
 unfold ex29L at hp
 simp only [List.mem_cons, List.not_mem_nil, or_false] at hp
 rcases hp with rfl | rfl
 ·exact one_fits k0 k1 (by omega) (by omega)
 ·exact one_fits k2 k3 (by omega) (by omega)
def ex29S : List SampV := [oneS ⟨#[97]⟩ [1], oneS ⟨#[98]⟩ [2]]
theorem ex29_map (w : World) : (ex29L w).map Prod.snd = ex29S := rfl
theorem ex29_sorted : sortedNames ex29S = [[97], [98]] := by
 unfold sortedNames
 refine List.mergeSort_of_pairwise (l := [[97], [98]]) ?_
 refine List.Pairwise.cons ?_ (List.Pairwise.cons (by simp) List.Pairwise.nil)
 intro y hy
 simp only [List.mem_cons, List.not_mem_nil, or_false] at hy
 subst hy
 rw [decide_eq_true_eq]
 decide
theorem ex29_check : checkAllZ ex29S = 0 := by
 unfold checkAllZ
 rw [if_neg (by show ¬ (64 < 2); omega), if_neg (fun h => h (by decide +kernel)), if_neg]
 unfold dupZ
 rw [ex29_sorted]
 decide +kernel
theorem ex29_sort : sortS ex29S = ex29S := by kernel_rfl
theorem ex29_pack : packE 24 ex29S = 0 := (if_neg (by omega)).trans ex29_check
theorem ex29_small (w : World) : ∀ p ∈ ex29L w, p.2.small := by
 intro p hp
 unfold ex29L at hp
 simp only [List.mem_cons, List.not_mem_nil, or_false] at hp
 rcases hp with rfl | rfl
 ·exact ⟨by show (1 : Nat) ≤ 100; omega, by show (1 : Nat) ≤ 4; omega, fun r hr => by simp [oneS] at hr; subst hr; decide⟩
 ·exact ⟨by show (1 : Nat) ≤ 100; omega, by show (1 : Nat) ≤ 4; omega, fun r hr => by simp [oneS] at hr; subst hr; decide⟩
theorem ex29_names : (ex29S.map metaOf).map (·.name) = [⟨#[97]⟩, ⟨#[98]⟩] := rfl
set_option maxRecDepth 100000 in
set_option maxHeartbeats 4000000 in
theorem awake29_any (w : World) : Calls Tryz.prog 31 #[] w fun e w' => e = .returned (.bool true) ∧ Below w.heap.size w w' := by
 have hm := made29_ex (ex29L w) (some ⟨w.heap.size + 4, 0, none⟩) 2 (ex29w w) (ex29_at w) (by show (2 : Nat) ≤ 8; omega) (ex29_small w)
 rw [ex29_map] at hm
 have HM := hid (show Calls Tryz.prog 30 #[.slice (some ⟨w.heap.size + 4, 0, none⟩) 2 2] (ex29w w) (MadeP (ex29w w) ex29S) from hm)
 have HE := hid (ex29_below w)
 unfold MadeP at HM
 rw [ex29_sort] at HM
 have HRn := hid (fun (hC : CanP 24 ex29S) g W (hB : BankAt W g (packZ 24 ex29S) 24 (packDir 24 ex29S)) => (show Calls Tryz.prog 32 #[.pointer (some ⟨g, 0, none⟩), .string ⟨#[97]⟩, .string ⟨#[98]⟩] W (fun e w' => e = .returned (.tuple #[.slice none 0 0, .int .i64 11]) ∧ Below W.heap.size W w') from by
  rw [hC.bld_eq, ← bldDir_pack] at hB
  refine Rename_twice hC.can g ⟨#[97]⟩ ⟨#[98]⟩ W hB ?_ (by decide +kernel) ?_
  ·rw [atB_names, all_names, ex29_names]
   exact nAtB_of (by decide +kernel)
  ·rw [atB_names, map_eraseIdx, all_names, atZ_names, all_names, ex29_names]
   exact nAtB_of (by decide +kernel)))
 have HNm := hid (fun g W (hB : BankAt W g (packZ 24 ex29S) 24 (packDir 24 ex29S)) => (show Calls Tryz.prog 66 #[.pointer (some ⟨g, 0, none⟩)] W (NamesP W [⟨#[97]⟩, ⟨#[98]⟩]) from by
  have h := Names29_any hB (by omega) (by rw [packDir_len]; show (2 : Nat) ≤ 64; omega)
  rw [← bldDir_pack, bldDir_names, ex29_names] at h
  exact h))
 have HP := hid ex29_pack
 clear hm
 unfold ex29w at HM HE
 go_enter Tryz.func31, Tryz.ntmps31
 go_wp2_with (go_at_call 30; fail)
 refine HM.out.mono ?_
 rintro e w1 ⟨hb1, ⟨h, _⟩ | ⟨_, hC, g, rfl, hB, _⟩⟩
 ·exact absurd HP.out h
 have E1 := hid (bnext HE.out hb1)
 have HR1 := hid (HRn.out hC g w1 hB)
 have HB1 := hid hB
 clear hb1 hC hB HM HE HRn HP
 go_wp2_with (go_at_call 32; fail)
 refine HR1.out.mono ?_
 rintro e w2 ⟨rfl, hb2⟩
 have E2 := hid (bnext E1.out hb2)
 have HN2 := hid (HNm.out g w2 (HB1.out.later hb2))
 clear hb2 HR1 HNm
 go_wp2_with (go_at_call 66; fail)
 refine HN2.out.mono ?_
 rintro e w3 ⟨A, c, rfl, hr, hb3⟩
 obtain ⟨b, off, rfl, _, c1⟩ := hr 1 (.string ⟨#[98]⟩) rfl
 have E3 := hid (bnext E2.out hb3)
 clear hr hb3 HN2
 go_wp2
 go_ret
 exact ⟨rfl, E3.out⟩
end Go.Proofs.YtgcfkblmnpnogaaGreatDoor
