/- LayB. Conditions: as each theorem states. -/
import Derived.Test.YtoagdidkadfekaaGreatDoorPfxLayA

namespace Go.Proofs.YtoagdidkadfekaaGreatDoor
open Go.RowKit Go.Lib

set_option maxRecDepth 100000 in
set_option maxHeartbeats 4000000 in
theorem llay_any (bs xs : List Nat) (at_ : Nat) (A Ax : Option Addr) (cb cx : Nat) (w : World) (h0 : 0 < bs.length) (hl : bs.length ≤ 100000000) (ha : at_ + xs.length ≤ bs.length)
    (hr : Row w w.heap.size A (u8s bs)) (hrx : Row w w.heap.size Ax (u8s xs)) :
    Calls Tryz.prog 51 #[.slice A bs.length cb, .int .i64 at_, .slice Ax xs.length cx] w (BytP w (putAt bs at_ xs)) := by
  obtain ⟨iB, hiB, hzB0, hzB1, hzB2⟩ := info_parts inf_u8
  have HP := Lib.hid (fun m x (h : xs[m]? = some x) => putAt_take (o := at_) (bs := bs) h ha)
  have HPl := Lib.hid (fun m => (show (putAt bs at_ (xs.take m)).length = bs.length from putAt_len (by rw [List.length_take]; omega)))
  have HP0 := Lib.hid (show putAt bs at_ (xs.take 0) = bs by simp [putAt])
  have HPX := Lib.hid (show putAt bs at_ (xs.take xs.length) = putAt bs at_ xs by rw [List.take_of_length_le (Nat.le_refl _)])
  have HX := Lib.hid (fun m (h : m < xs.length) => (show ∃ x, xs[m]? = some x from ⟨_, List.getElem?_eq_getElem h⟩))
  have HLn := Lib.hid (putAt_len ha)
  have Hrx := Lib.hid hrx
  obtain ⟨w1, hw1⟩ : ∃ w1, w.alloc (.cells #[] 5) = w1 := ⟨_, rfl⟩
  have B1 := Lib.hid (show Below w.heap.size w w1 by rw [← hw1]; exact bnew w _)
  have O1 := Lib.hid (show w1.ownsRow w.heap.size 5 1 (.slice (some ⟨w.heap.size, 0, none⟩) 0 0) 0 [] by rw [← hw1]; exact own_empty w _ _)
  have R1 := Lib.hid (hr.later B1.out)
  have Hone := Lib.hid (fun u (hu : u ∈ u8s bs) => u8s_one bs u hu)
  have Hul := Lib.hid (show (u8s bs).length = bs.length * 1 by rw [Nat.mul_one]; unfold u8s; rw [List.length_map])
  unfold BytP
  rw [HLn.out]
  obtain ⟨n, hn⟩ : ∃ n, bs.length = n := ⟨_, rfl⟩
  obtain ⟨k, hk⟩ : ∃ k, xs.length = k := ⟨_, rfl⟩
  rw [hn] at h0 hl ha HPl Hul ⊢
  rw [hk] at ha HX HPX ⊢
  clear hr hrx HLn hn hk
  go_enter Tryz.func51, Tryz.ntmps51
  go_wp2_with (at_builtin; refine wpList_app _ rfl (.tmp 9) (.tmp 10) 24 rfl w.heap.size 5 iB (.int .u8 0) 1 1 Tryz.underlying24 hiB hzB0 hzB1 hzB2 rfl (by omega) _ 0 [] rfl (O1.out) _ A n cb (u8s bs) rfl Hul.out (R1.out) Hone.out (by omega) (by omega) (by have := B1.out.size; omega) ?_; intro A2 cc w2 hown hgr hob hcc)

  rw [List.nil_append, Nat.zero_add] at hown
  rw [Nat.zero_add] at hcc
  obtain ⟨g, rfl, hgb, hgl⟩ := own_start2 hown h0
  have HO := Lib.hid (show w2.ownsRow w.heap.size 5 1 (.slice (some ⟨g, 0, none⟩) n cc) n (u8s (putAt bs at_ (xs.take 0))) by rw [HP0.out]; exact hown)
  have HB := Lib.hid (show Below w.heap.size w w2 from B1.out.grown hgr (by have := B1.out.size; omega) (fun j hj => own_block_ge O1.out j hj))
  have hcm := own_cap hown
  clear hown hgr hob
  go_wp2_with fail
  go_loopw [8] (fun i wr => ∃ m : Nat, m ≤ k ∧ i = .int .i64 m ∧ wr.ownsRow w.heap.size 5 1 (.slice (some ⟨g, 0, none⟩) n cc) n (u8s (putAt bs at_ (xs.take m))) ∧ Below w.heap.size w wr) (fun i _ => k - (intOf i).toNat)
  case atStart => exact ⟨0, by omega, rfl, HO.out, HB.out⟩
  case round =>
    obtain ⟨m, hm, rfl, hown, hbel⟩ := hrel
    have Hown := Lib.hid hown
    have Hbel := Lib.hid hbel
    clear hown hbel
    by_cases hlt : m < k
    · have t1 : (m : Int) < (k : Int) := by omega
      have t2 : (at_ : Int) + (m : Int) < (n : Int) := by omega
      have t3 : (0 : Int) ≤ (m : Int) := by omega
      have t4 : (0 : Int) ≤ (at_ : Int) + (m : Int) := by omega
      obtain ⟨x, hx⟩ := HX.out m hlt
      have HPm := Lib.hid (HP.out m x hx)
      obtain ⟨bx, ox, rfl, hbx, hcx⟩ := (Hrx.out.later Hbel.out) m _ (u8s_get hx)
      have hcl : ∃ y : Nat, (putAt bs at_ (xs.take m))[at_ + m]? = some y := ⟨_, List.getElem?_eq_getElem (by rw [HPl.out]; omega)⟩
      obtain ⟨y, hy⟩ := hcl
      obtain ⟨g', o', hA', hbg, c1⟩ := (Row.of_own Hown.out) (at_ + m) _ (u8s_get hy)
      injection hA' with hA'
      injection hA' with e1 e2
      subst e1 e2
      rw [Nat.zero_add] at c1
      have z1 := Hown.out.frozenAt (at_ + m)
      have hst := Hown.out.stored (at_ + m) (.int .u8 (x : Int))
      obtain ⟨hst, hgr⟩ := hst
      obtain ⟨w5, hw5⟩ : ∃ w5, wr.setCell ⟨g, at_ + m, none⟩ (.int .u8 (x : Int)) = w5 := ⟨_, rfl⟩
      rw [hw5, ← u8s_set, HPm.out] at hst
      have O5 := Lib.hid hst
      have E5 := Lib.hid (show Below w.heap.size w w5 by rw [← hw5]; exact Hbel.out.setCell (by simpa using hgb) _)
      clear hst hgr hy hx
      go_wp2
      go_roundw
      case rel =>
        refine ⟨m + 1, by omega, by go_num, ?_, ?_⟩
        · first | exact O5.out | (rw [hw5]; exact O5.out)
        · first | exact E5.out | (rw [hw5]; exact E5.out)
      case measure => first | (simp [intOf]; done) | (simp [intOf]; omega)
    · have hmk : m = k := by omega
      subst hmk
      have t1 : ¬ ((m : Int) < (m : Int)) := by omega
      have H2 := Hown.out
      rw [HPX.out] at H2
      have HR := Lib.hid (Row.of_own H2)
      clear H2
      go_wp2
      go_ret
      exact ⟨g, cc, rfl, hcc, hcm, hgb, HR.out, Hbel.out⟩
end Go.Proofs.YtoagdidkadfekaaGreatDoor
