/- LayA. Conditions: as each theorem states. -/
import Derived.Test.YtoagdidkadfekaaGreatDoorPfxParT

namespace Go.Proofs.YtoagdidkadfekaaGreatDoor
open Go.RowKit Go.Lib

/-- a number's last m bytes, and zeros ahead -/
def numTail (size v m : Nat) : List Nat := List.replicate (size - m) 0 ++ (numB size v).drop (size - m)
theorem numTail_zero (size v : Nat) : numTail size v 0 = List.replicate size 0 := by
  unfold numTail
  rw [Nat.sub_zero, List.drop_of_length_le (by rw [numB_len]; exact Nat.le_refl _), List.append_nil]
theorem numTail_all (size v : Nat) : numTail size v size = numB size v := by
  unfold numTail
  rw [Nat.sub_self]
  rfl
theorem numTail_len (size v m : Nat) : (numTail size v m).length = size := by
  unfold numTail
  rw [List.length_append, List.length_replicate, List.length_drop, numB_len]
  omega
theorem numTail_set {size v m k : Nat} (h : m + k + 1 = size) : (numTail size v m).set k (v / 2 ^ (8 * m) % 256) = numTail size v (m + 1) := by
  have h1 : size - m = k + 1 := by omega
  have h2 : size - (m + 1) = k := by omega
  have hX : (numB size v)[k]? = some (v / 2 ^ (8 * m) % 256) := by rw [numB_get (by omega), show size - 1 - k = m by omega]
  unfold numTail
  rw [h1, h2]
  have hk := (List.getElem?_eq_some_iff.1 hX).1
  rw [List.set_append_left _ _ (by rw [List.length_replicate]; omega), List.replicate_succ', List.set_append_right _ _ (by rw [List.length_replicate]; omega), List.length_replicate, Nat.sub_self, List.append_assoc, List.drop_eq_getElem_cons hk]
  rw [List.getElem?_eq_getElem hk] at hX
  injection hX with hX
  rw [hX]
  rfl
/-- a call's result: bytes of its own -/
def BytP (w : World) (xs : List Nat) (e : Ending) (w' : World) : Prop :=
  ∃ g c, e = .returned (.slice (some ⟨g, 0, none⟩) xs.length c) ∧ xs.length ≤ c ∧ c ≤ 9223372036854775807 ∧ w.heap.size ≤ g ∧ Row w' w'.heap.size (some ⟨g, 0, none⟩) (u8s xs) ∧ Below w.heap.size w w'
set_option maxRecDepth 100000 in
set_option maxHeartbeats 4000000 in
theorem lnum_any (size v : Nat) (w : World) (h1 : 1 ≤ size) (h2 : size ≤ 4) (hv : v ≤ 1000000000000) :
    Calls Tryz.prog 52 #[.int .i64 size, .int .i64 v] w (BytP w (numB size v)) := by
  obtain ⟨iB, hiB, hzB0, hzB1, hzB2⟩ := info_parts inf_u8
  have HS := Lib.hid (fun (m k : Nat) (h : m + k + 1 = size) => numTail_set (v := v) h)
  have HL := Lib.hid (fun m => numTail_len size v m)
  have HA := Lib.hid (numTail_all size v)
  have HNl := Lib.hid (numB_len size v)
  obtain ⟨mc, hmc⟩ : ∃ mc, madeCells #[Value.int .u8 0] size = mc := ⟨_, rfl⟩
  have Hms := Lib.hid (show mc = (u8s (numTail size v 0)).toArray from by
    have h := toList_madeCells_one (Value.int .u8 0) size
    rw [hmc] at h
    have : u8s (List.replicate size 0) = List.replicate size (.int .u8 0) := by simp [u8s]
    rw [numTail_zero, this, ← h])
  obtain ⟨w1, hw1⟩ : ∃ w1, w.alloc (.cells mc 5) = w1 := ⟨_, rfl⟩
  have HyB := Lib.hid (show BytesAt w1 w.heap.size (numTail size v 0) by
    rw [← hw1, Hms.out]
    exact Blk.new w 5 (u8s (numTail size v 0)))
  have B1 := Lib.hid (show Below w.heap.size w w1 by rw [← hw1]; exact bnew w _)
  have t0 : ¬ ((size : Int) < 0) := by omega
  unfold BytP
  rw [HNl.out]
  go_enter Tryz.func52, Tryz.ntmps52
  go_wp2_with (refine wpList_make_row w rfl (.tmp 7) (.tmp 7) 24 rfl 5 iB (.int .u8 0) Tryz.underlying24 hiB hzB0 hzB1 rfl .i64 .i64 size rfl rfl (by rw [hzB2]; omega) (by omega) ?_; rw [hmc, hw1])
  go_loopw [1, 6] (fun a i wr => ∃ m : Nat, m ≤ size ∧ i = .int .i64 ((size : Int) - 1 - m) ∧ a = .int .i64 ((v / 2 ^ (8 * m) : Nat) : Int) ∧ BytesAt wr w.heap.size (numTail size v m) ∧ Below w.heap.size w wr) (fun _ i _ => (intOf i + 1).toNat)
  case atStart => exact ⟨0, by omega, by go_num, by simp, HyB.out, B1.out⟩
  case round =>
    obtain ⟨m, hm, rfl, rfl, hby, hbel⟩ := hrel
    have Hby := Lib.hid hby
    have Hbel := Lib.hid hbel
    clear hby hbel
    by_cases hlt : m < size
    · obtain ⟨k, hk⟩ : ∃ k : Nat, m + k + 1 = size := ⟨size - 1 - m, by omega⟩
      have hi : (size : Int) - 1 - (m : Int) = (k : Int) := by omega
      rw [hi]
      have t1 : (0 : Int) ≤ (k : Int) := by omega
      have t2 : (k : Int) < (size : Int) := by omega
      have HSm := Lib.hid (HS.out m k hk)
      have hl := HL.out m
      have HVn := Lib.hid (show v / 2 ^ (8 * (m + 1)) = v / 2 ^ (8 * m) / 256 by rw [Nat.div_div_eq_div_mul, show 8 * (m + 1) = 8 * m + 8 by omega, Nat.pow_add])
      have hVb : v / 2 ^ (8 * m) ≤ 1000000000000 := Nat.le_trans (Nat.div_le_self _ _) hv
      obtain ⟨V, hV⟩ : ∃ V, v / 2 ^ (8 * m) = V := ⟨_, rfl⟩
      rw [hV] at HSm HVn hVb ⊢
      obtain ⟨y, hy⟩ : ∃ y, (numTail size v m)[k]? = some y := ⟨_, List.getElem?_eq_getElem (by omega)⟩
      have c1 := Hby.out.cell hy
      have y1 := blk_free Hby.out
      have HP := Lib.hid (Hby.out.put k (V % 256))
      obtain ⟨w5, hw5⟩ : ∃ w5, wr.setCell ⟨w.heap.size, k, none⟩ (.int .u8 ((V % 256 : Nat) : Int)) = w5 := ⟨_, rfl⟩
      have E5 := Lib.hid (show Below w.heap.size w w5 by rw [← hw5]; exact Hbel.out.setCell (by simp) _)
      have hq : IntKind.i64.wrap ((V : Int).tdiv 256) = ((V / 256 : Nat) : Int) := by
        rw [Int.tdiv_eq_ediv_of_nonneg (by omega), IntWalk.i64_in _ (by omega)]
        push_cast; rfl
      clear hy hV
      go_wp2
      go_roundw
      case rel =>
        refine ⟨m + 1, by omega, by go_num, by rw [HVn.out]; push_cast; rfl, ?_, ?_⟩
        · have := HP.out
          rw [HSm.out] at this
          exact this
        · have := E5.out
          rw [← hw5] at this
          exact this
      case measure => first | (simp [intOf]; done) | (simp [intOf]; omega)
    · have hmn : m = size := by omega
      subst hmn
      have t1 : ¬ (0 : Int) ≤ (m : Int) - 1 - (m : Int) := by omega
      have hi : (m : Int) - 1 - (m : Int) = -1 := by omega
      rw [hi]
      have B2 := Hby.out
      rw [HA.out] at B2
      have HB2 := Lib.hid B2
      clear B2
      go_wp2
      go_ret
      exact ⟨_, _, rfl, Nat.le_refl _, by omega, Nat.le_refl _, bytes_at_row HB2.out, Hbel.out⟩
theorem up_any (n b : Int) (w : World) (h0 : 0 ≤ n) (h1 : n ≤ 1000000000000) (h2 : 1 ≤ b) (h3 : b ≤ 1000000) : Calls Tryz.prog 50 #[.int .i64 n, .int .i64 b] w fun e w' => e = .returned (.int .i64 (upZ n b)) ∧ w = w' := by
  have t1 : (b == 0) = false := beq_eq_false_iff_ne.2 (by omega)
  have t2 : b ≠ 0 := by omega
  have h5 : (n + b - 1) / b * b ≤ n + b - 1 := Int.ediv_mul_le _ t2
  have h6 : 0 ≤ (n + b - 1) / b := Int.ediv_nonneg (by omega) (by omega)
  have h7 : 0 ≤ (n + b - 1) / b * b := Int.mul_nonneg h6 (by omega)
  have h8 : IntKind.i64.wrap ((n + b - 1) / b * b) = (n + b - 1) / b * b := IntWalk.i64_in _ (by omega)
  unfold upZ
  go_enter Tryz.func50, Tryz.ntmps50
  go_wp2
  go_ret
  exact ⟨rfl, rfl⟩
end Go.Proofs.YtoagdidkadfekaaGreatDoor
