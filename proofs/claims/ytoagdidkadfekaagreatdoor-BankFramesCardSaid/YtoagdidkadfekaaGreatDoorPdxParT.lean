/- ParT. Conditions: as each theorem states. -/
import Derived.Test.YtoagdidkadfekaaGreatDoorPdxParR
import Derived.Test.YtoagdidkadfekaaGreatDoorPd33

namespace Go.Proofs.YtoagdidkadfekaaGreatDoor
open Go.RowKit Go.Lib

theorem flat_bytes {w : World} : ∀ (css : List (List Value)), (∀ cs ∈ css, Shape w (.int .u8) cs) → ∃ (B : List Nat), B.length = css.length ∧ css.flatten = u8s B ∧ ∀ x ∈ B, x < 256
  | [], _ => ⟨[], rfl, rfl, nofun⟩
  | cs :: r, h => by
    obtain ⟨B, h1, h2, h3⟩ := flat_bytes r (fun c hc => h c (by simp [hc]))
    obtain ⟨n, rfl, h4, h5⟩ := h cs (by simp)
    have h4 : 0 ≤ n := h4
    have h5 : n ≤ 255 := h5
    obtain ⟨k, rfl⟩ := Int.eq_ofNat_of_zero_le h4
    refine ⟨k :: B, by simp [h1], by rw [List.flatten_cons, h2]; rfl, fun x hx => ?_⟩
    rcases List.mem_cons.1 hx with rfl | hx
    · omega
    · exact h3 x hx
theorem arg_bytes {w : World} {v : Value} (h : Arg w (.slice 1 (.int .u8)) v) : ∃ (B : List Nat) (A : Option Addr) (cap : Nat), v = .slice A B.length cap ∧ B.length ≤ cap ∧ cap ≤ 9223372036854775807 ∧ (∀ x ∈ B, x < 256) ∧ Row w w.heap.size A (u8s B) := by
  obtain ⟨a, len, cap, hv, h1, h2, _, h4⟩ := h
  obtain ⟨css, hl, _, hs, hrow⟩ := rows_of_shape h4
  obtain ⟨B, hB, hf, hb⟩ := flat_bytes css hs
  injection hv with hv
  subst hv
  rw [hf] at hrow
  exact ⟨B, a, cap, by rw [hB, hl], by omega, h2, hb, hrow⟩
theorem take_row {w : World} {W : Nat} {A : Option Addr} {xs : List Value} (h : Row w W A xs) (n : Nat) : Row w W A (xs.take n) := fun i v hv => by
  rw [List.getElem?_take] at hv
  split at hv
  · exact h i v hv
  · cases hv
theorem take_u8s (B : List Nat) (n : Nat) : u8s (B.take n) = (u8s B).take n := by unfold u8s; rw [List.map_take]
/-- the error of packing -/
def packE (size : Int) (ss : List SampV) : Int := if size < 24 ∨ 96 < size then 12 else checkAllZ ss
/-- what Pack leaves -/
def PackP (w : World) (size : Int) (ss : List SampV) (e : Ending) (w' : World) : Prop :=
  Below w.heap.size w w' ∧ ((packE size ss ≠ 0 ∧ e = .returned (.tuple #[.slice none 0 0, .int .i64 (packE size ss)])) ∨
    (packE size ss = 0 ∧ ∃ (sz g : Nat), size = sz ∧ CanP sz (sortS ss) ∧ w.heap.size ≤ g ∧ BytesAt w' g (packZ sz (sortS ss)) ∧ e = .returned (.tuple #[.slice (some ⟨g, 0, none⟩) (packLen sz (sortS ss)) (packLen sz (sortS ss)), .int .i64 0])))
theorem Pack_any (size : Int) (L : List (HSamp × SampV)) (A : Option Addr) (cap : Nat) (w : World) (hl : L.length ≤ 8) (hn : A = none → cap = 0) (hs : SampsAt w w.heap.size A L) (hsm : ∀ p ∈ L, p.2.small) :
    Calls Tryz.prog 10 #[.int .i64 size, .slice A L.length cap] w (PackP w size (L.map (·.2))) := by
  by_cases hsz : size < 24 ∨ 96 < size
  · have hE : packE size (L.map (·.2)) = 12 := if_pos hsz
    refine (Pack_size size A L.length cap w hsz).mono ?_
    rintro e w' ⟨he, hb⟩
    exact ⟨hb, .inl ⟨by rw [hE]; decide, by rw [hE]; exact he⟩⟩
  · have hE0 : packE size (L.map (·.2)) = checkAllZ (L.map (·.2)) := if_neg hsz
    by_cases hE : checkAllZ (L.map (·.2)) = 0
    · obtain ⟨sz, rfl⟩ := Int.eq_ofNat_of_zero_le (show 0 ≤ size by omega)
      refine (Pack_ok sz L A cap w (by omega) (by omega) hl hn hs hsm hE).mono ?_
      rintro e w' ⟨g, he, hg, hb, hbel⟩
      refine ⟨hbel, .inr ⟨by rw [hE0]; exact hE, sz, g, rfl, canP_of (by omega) (by omega) (by rw [List.length_map]; exact hl) (fun s hs => ?_) hE, hg, hb, he⟩⟩
      obtain ⟨p, hp, rfl⟩ := List.mem_map.1 hs
      exact hsm p hp
    · refine (Pack_bad size _ L A cap w (by omega) (by omega) hl hs rfl hE).mono ?_
      rintro e w' ⟨he, hb⟩
      exact ⟨hb, .inl ⟨by rw [hE0]; exact hE, by rw [hE0]; exact he⟩⟩
end Go.Proofs.YtoagdidkadfekaaGreatDoor
