/- ParT. Conditions: as each theorem states. -/
import Derived.Test.YtoagdidkadfekaaGreatDoorPfxParR
import Derived.Test.YtoagdidkadfekaaGreatDoorPf30

namespace Go.Proofs.YtoagdidkadfekaaGreatDoor
open Go.RowKit Go.Lib

/-- the error of packing -/
def packE (size : Int) (ss : List SampV) : Int := if size < 24 ∨ 96 < size then 12 else checkAllZ ss
/-- what Pack leaves -/
def PackP (w : World) (size : Int) (ss : List SampV) (e : Ending) (w' : World) : Prop :=
  Below w.heap.size w w' ∧ ((packE size ss ≠ 0 ∧ e = .returned (.tuple #[.slice none 0 0, .int .i64 (packE size ss)])) ∨
    (packE size ss = 0 ∧ ∃ (sz g : Nat), size = sz ∧ CanP sz (sortS ss) ∧ w.heap.size ≤ g ∧ BytesAt w' g (packZ sz (sortS ss)) ∧ e = .returned (.tuple #[.slice (some ⟨g, 0, none⟩) (packLen sz (sortS ss)) (packLen sz (sortS ss)), .int .i64 0])))
theorem Pack_any (size : Int) (L : List (HSamp × SampV)) (A : Option Addr) (cap : Nat) (w : World) (hl : L.length ≤ 8) (hn : A = none → cap = 0) (hs : SampsAt w w.heap.size A L) (hsm : ∀ p ∈ L, p.2.small) :
    Calls Tryz.prog 10 #[.int .i64 size, .slice A L.length cap] w (PackP w size (L.map (·.2))) := by
  by_cases hsz : size < 24 ∨ 96 < size
  · have hE : packE size (L.map (·.2)) = 12 := if_pos hsz
    refine (Pack_size size A L.length cap w hsz).mono ?_
    rintro e w' ⟨he, hb⟩
    exact ⟨hb, .inl ⟨by rw [hE]; decide, by rw [hE]; exact he⟩⟩
  · have hE0 : packE size (L.map (·.2)) = checkAllZ (L.map (·.2)) := if_neg hsz
    by_cases hE : checkAllZ (L.map (·.2)) = 0
    · obtain ⟨sz, rfl⟩ := Int.eq_ofNat_of_zero_le (show 0 ≤ size by omega)
      refine (Pack_ok sz L A cap w (by omega) (by omega) hl hn hs hsm hE).mono ?_
      rintro e w' ⟨g, he, hg, hb, hbel⟩
      refine ⟨hbel, .inr ⟨by rw [hE0]; exact hE, sz, g, rfl, canP_of (by omega) (by omega) (by rw [List.length_map]; exact hl) (fun s hs => ?_) hE, hg, hb, he⟩⟩
      obtain ⟨p, hp, rfl⟩ := List.mem_map.1 hs
      exact hsm p hp
    · refine (Pack_bad size _ L A cap w (by omega) (by omega) hl hs rfl hE).mono ?_
      rintro e w' ⟨he, hb⟩
      exact ⟨hb, .inl ⟨by rw [hE0]; exact hE, by rw [hE0]; exact he⟩⟩
end Go.Proofs.YtoagdidkadfekaaGreatDoor
