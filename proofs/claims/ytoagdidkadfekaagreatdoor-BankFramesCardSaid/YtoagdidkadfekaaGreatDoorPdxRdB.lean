/- RdB. Conditions: as each theorem states. -/
import Derived.Test.YtoagdidkadfekaaGreatDoorPdxRdA
import Derived.Test.YtoagdidkadfekaaGreatDoorPd28

namespace Go.Proofs.YtoagdidkadfekaaGreatDoor
open Go.RowKit

set_option maxRecDepth 100000 in
set_option maxHeartbeats 4000000 in
theorem RSigned_any (B : List Nat) (g : Nat) (A : Option Addr) (c : Nat) (s : RdS) (k : Nat) (w : World) (hk : k ≤ 57) (hn : B.length ≤ 1000000) (hb : ∀ x ∈ B, x < 256) (hs : InB B s) (hB : RBytesAt w g A B) (h : RdAt w g A c B.length s) :
    Calls Tryz.prog 67 #[.pointer (some ⟨g, 0, none⟩), .int .i64 k] w fun e w' => e = .returned (.int .i64 (sgnV B s k)) ∧ RdAt w' g A c B.length (getS B s k) ∧ w.grownBy w' (some g) := by
  have HG := Lib.hid (Get_any B g A c s k w hk hn hb hs hB h)
  have hlt := getV_lt B s k
  have hse : sgnV B s k = if (getS B s k).er ≠ 0 ∨ k = 0 then 0 else if getV B s k / 2 ^ (k - 1) = 1 then (getV B s k : Int) - 2 ^ k else getV B s k := rfl
  have HSe := Lib.hid hse
  generalize sgnV B s k = Z at *
  generalize getV B s k = V at *
  generalize getS B s k = S at *
  generalize B.length = n at *
  obtain ⟨a, er⟩ := S
  simp only at HSe
  have hp57 : 2 ^ k ≤ 2 ^ 57 := Nat.pow_le_pow_right (by decide) (by omega)
  clear hse hb hs hB h
  by_cases he : er = 0
  · by_cases hk0 : k = 0
    · have HZ := Lib.hid (show Z = 0 by rw [HSe.out, if_pos (.inr hk0)])
      subst he hk0
      have t2 : (((0 : Nat) : Int) == 0) = true := rfl
      rw [HZ.out]
      go_enter Tryz.func67, Tryz.ntmps67
      go_wp2_with (go_at_call 65; fail)
      refine HG.out.mono ?_
      rintro e w1 ⟨rfl, hR, hg⟩
      have R1 := Lib.hid hR
      have c2 : w1.cell? ⟨g, 2, none⟩ = some (.int .i64 0) := cell_of_row w1 g 2 _ _ _ hR
      clear hR
      go_wp2
      go_ret
      exact ⟨rfl, R1.out, hg⟩
    · have hZ : Z = if V / 2 ^ (k - 1) = 1 then (V : Int) - 2 ^ k else V := by rw [HSe.out, if_neg (by rintro (h | h) <;> contradiction)]
      subst he
      obtain ⟨j, rfl⟩ : ∃ j, k = j + 1 := ⟨k - 1, by omega⟩
      rw [Nat.add_sub_cancel] at hZ
      have t2 : (((j + 1 : Nat) : Int) == 0) = false := beq_eq_false_iff_ne.2 (by omega)
      have t3 : ((j + 1 : Nat) : Int) - 1 = (j : Int) := by omega
      have t4 : (0 : Int) ≤ (j : Int) := by omega
      have t5 : (j : Int) ≤ 64 := by omega
      have hdiv : (V : Int) / 2 ^ j = ((V / 2 ^ j : Nat) : Int) := by rw [show (2 : Int) ^ j = ((2 ^ j : Nat) : Int) by rw [Int.natCast_pow]; rfl]; exact (Int.natCast_ediv V (2 ^ j)).symm
      have hw1 : IntKind.i64.wrap (V : Int) = (V : Int) := IntWalk.i64_in _ (by omega)
      have hpc : (2 : Int) ^ (j + 1) = ((2 ^ (j + 1) : Nat) : Int) := by rw [Int.natCast_pow]; rfl
      have hw2 : IntKind.i64.wrap (1 * 2 ^ (j + 1)) = 2 ^ (j + 1) := by rw [Int.one_mul, hpc]; exact IntWalk.i64_in _ (by omega)
      have hw3 : IntKind.i64.wrap ((V : Int) - 2 ^ (j + 1)) = (V : Int) - 2 ^ (j + 1) := by rw [hpc]; exact IntWalk.i64_in _ (by omega)
      have hw4 : IntKind.i64.wrap (2 ^ (j + 1)) = 2 ^ (j + 1) := by rw [hpc]; exact IntWalk.i64_in _ (by omega)
      obtain ⟨U, hU⟩ : ∃ U : Int, (2 : Int) ^ (j + 1) = U := ⟨_, rfl⟩
      rw [hU] at hw2 hw3 hw4 hZ
      obtain ⟨d, hd⟩ : ∃ d, V / 2 ^ j = d := ⟨_, rfl⟩
      rw [hd] at hdiv hZ
      have t6 : (0 : Int) ≤ ((j + 1 : Nat) : Int) := by omega
      have t7 : ((j + 1 : Nat) : Int) ≤ 64 := by omega
      obtain ⟨bt, hbt⟩ : ∃ bt, ((d : Int) == 1) = bt := ⟨_, rfl⟩
      have hZ2 : Z = if bt then (V : Int) - U else V := by
        rw [hZ]
        cases bt
        · have := beq_eq_false_iff_ne.1 hbt
          rw [if_neg (by omega)]; rfl
        · have := beq_iff_eq.1 hbt
          rw [if_pos (by omega)]; rfl
      have HZ := Lib.hid hZ2
      generalize hK : ((j + 1 : Nat) : Int) = K at *
      have hUK : (2 : Int) ^ K.toNat = U := by rw [← hK, Int.toNat_natCast]; exact hU
      clear hZ hZ2 hp57 hlt hU hK HSe hpc hd
      cases bt
      all_goals
        rw [HZ.out]
        go_enter Tryz.func67, Tryz.ntmps67
        go_wp2_with (go_at_call 65; fail)
        refine HG.out.mono ?_
        rintro e w1 ⟨rfl, hR, hg⟩
        have R1 := Lib.hid hR
        have c2 : w1.cell? ⟨g, 2, none⟩ = some (.int .i64 0) := cell_of_row w1 g 2 _ _ _ hR
        clear hR
        go_wp2
        go_ret
        exact ⟨rfl, R1.out, hg⟩
  · have HZ := Lib.hid (show Z = 0 by rw [HSe.out, if_pos (.inl he)])
    have t1 : (er != 0) = true := by simp [he]
    rw [HZ.out]
    clear he
    go_enter Tryz.func67, Tryz.ntmps67
    go_wp2_with (go_at_call 65; fail)
    refine HG.out.mono ?_
    rintro e w1 ⟨rfl, hR, hg⟩
    have R1 := Lib.hid hR
    have c2 : w1.cell? ⟨g, 2, none⟩ = some (.int .i64 er) := cell_of_row w1 g 2 _ _ _ hR
    clear hR
    go_wp2
    go_ret
    exact ⟨rfl, R1.out, hg⟩

/-- how much a reader in memory may still go -/
def rdMu (g N : Nat) (w : World) : Nat := match w.cell? ⟨g, 2, none⟩, w.cell? ⟨g, 1, none⟩ with
  | some (.int _ e), some (.int _ a) => if e = 0 then N + 1 - a.toNat else 0
  | _, _ => 0
theorem rdMu_at {w : World} {g : Nat} {A : Option Addr} {c n : Nat} {s : RdS} (N : Nat) (h : RdAt w g A c n s) : rdMu g N w = if s.er = 0 then N + 1 - s.at_ else 0 := by
  unfold RdAt at h
  unfold rdMu
  rw [show w.cell? ⟨g, 1, none⟩ = some (.int .i64 s.at_) from cell_of_row w g 1 _ _ _ h, show w.cell? ⟨g, 2, none⟩ = some (.int .i64 s.er) from cell_of_row w g 2 _ _ _ h]
  simp
def endN (B : List Nat) (s : RdS) : RdS := if getV B s 1 = 0 then getS B s 1 else failS (getS B s 1) 4
theorem endS_step {B : List Nat} {s : RdS} {f : Nat} (h1 : s.er = 0) (h2 : s.at_ < 8 * B.length) : endS B s (f + 1) = endS B (endN B s) f := by
  show (if s.er ≠ 0 ∨ 8 * B.length ≤ s.at_ then s else _) = _
  rw [if_neg (by rintro (h | h) <;> omega)]; rfl
theorem endS_stop {B : List Nat} {s : RdS} {f : Nat} (h : s.er ≠ 0 ∨ 8 * B.length ≤ s.at_) : endS B s f = s := by
  cases f with
  | zero => rfl
  | succ f =>
    show (if s.er ≠ 0 ∨ 8 * B.length ≤ s.at_ then s else _) = _
    rw [if_pos h]
theorem getS_one {B : List Nat} {s : RdS} (h1 : s.er = 0) (h2 : s.at_ < 8 * B.length) : getS B s 1 = ⟨s.at_ + 1, 0⟩ := by
  unfold getS
  rw [if_neg (by omega), if_neg (by omega)]

set_option maxRecDepth 100000 in
set_option maxHeartbeats 4000000 in
theorem End_any (B : List Nat) (g : Nat) (A : Option Addr) (c : Nat) (s : RdS) (w : World) (hn : B.length ≤ 1000000) (hb : ∀ x ∈ B, x < 256) (hs : InB B s) (hB : RBytesAt w g A B) (h : RdAt w g A c B.length s) :
    Calls Tryz.prog 69 #[.pointer (some ⟨g, 0, none⟩)] w fun e w' => e = .returned (.int .i64 (endS B s (8 * B.length)).er) ∧ w.grownBy w' (some g) := by
  have HG := Lib.hid (fun s W (hi : InB B s) (h : RdAt W g A c B.length s) (hW : w.grownBy W (some g)) => Get_any B g A c s 1 W (by omega) hn hb hi (hB.grown hW) h)
  have HL := Lib.hid (fun s W (hi : InB B s) (h : RdAt W g A c B.length s) => Left_any g A c B.length s W hn hi h)
  have HF := Lib.hid (fun s W (h : RdAt W g A c B.length s) => Fail_any g A c B.length s 4 W h)
  have H := Lib.hid h
  have HS := Lib.hid hs
  obtain ⟨E, hE⟩ : ∃ E, endS B s (8 * B.length) = E := ⟨_, rfl⟩
  obtain ⟨N, hN⟩ : ∃ N, 8 * B.length = N := ⟨_, rfl⟩
  have HN := Lib.hid hN
  rw [hE]
  have HE := Lib.hid hE
  clear hE hN h hs hb hB
  go_enter Tryz.func69, Tryz.ntmps69
  go_wp2
  go_loopw [] (fun wr => ∃ (s' : RdS) (f : Nat), InB B s' ∧ endS B s' f = E ∧ N ≤ s'.at_ + f ∧ RdAt wr g A c B.length s' ∧ w.grownBy wr (some g)) (fun wr => rdMu g N wr)
  case atStart => exact ⟨s, N, HS.out, by rw [← HN.out]; exact HE.out, by omega, H.out, grown_refl _ _⟩
  case round =>
    obtain ⟨s', f, hi, he, hf, hR, hG⟩ := hrel
    have HI := Lib.hid hi
    have HQ := Lib.hid he
    have HR := Lib.hid hR
    have HG1 := Lib.hid hG
    have hmu := rdMu_at N hR
    have HMu := Lib.hid hmu
    unfold InB at hi
    rw [HN.out] at hi
    have h2 : ∀ W, RdAt W g A c B.length s' → W.cell? ⟨g, 2, none⟩ = some (.int .i64 s'.er) := fun W h => cell_of_row W g 2 _ _ _ h
    have H2 := Lib.hid h2
    have HLf := Lib.hid (HL.out s' wr HI.out HR.out)
    clear he hR hG hmu h2 H HE
    by_cases hgo : s'.er = 0 ∧ s'.at_ < N
    · obtain ⟨h0, hlt⟩ := hgo
      have hl : leftZ B.length s' = ((N - s'.at_ : Nat) : Int) := by
        unfold leftZ
        rw [if_pos h0]
        have := HN.out
        omega
      rw [hl] at HLf
      have t1 : (0 : Int) < ((N - s'.at_ : Nat) : Int) := by omega
      obtain ⟨K, hK⟩ : ∃ K : Int, ((N - s'.at_ : Nat) : Int) = K := ⟨_, rfl⟩
      rw [hK] at HLf t1
      have hS1 := getS_one h0 (show s'.at_ < 8 * B.length by rw [HN.out]; exact hlt)
      obtain ⟨f', rfl⟩ : ∃ f', f = f' + 1 := ⟨f - 1, by omega⟩
      have HSt := Lib.hid (endS_step (f := f') h0 (show s'.at_ < 8 * B.length by rw [HN.out]; exact hlt))
      have HNx := Lib.hid (show endN B s' = if getV B s' 1 = 0 then getS B s' 1 else failS (getS B s' 1) 4 from rfl)
      have HIn := Lib.hid (getS_in HI.out 1)
      have HFl := Lib.hid (show failS (⟨s'.at_ + 1, 0⟩ : RdS) 4 = ⟨s'.at_ + 1, 4⟩ from rfl)
      obtain ⟨v, hv⟩ : ∃ v, getV B s' 1 = v := ⟨_, rfl⟩
      have HV := Lib.hid hv
      rw [hv, hS1, HFl.out] at HNx
      rw [hS1] at HIn
      have HS1 := Lib.hid hS1
      have H0 := Lib.hid h0
      clear hK hl hS1 hv h0
      go_wp2_with (go_at_call 90; fail)
      refine HLf.out.mono ?_
      rintro e w1 ⟨rfl, hb1⟩
      have R1 := Lib.hid (show RdAt w1 g A c B.length s' from hkeep HR.out hb1)
      have G1 := Lib.hid (grown_next HG1.out (grown_of hb1))
      clear hb1
      go_wp2_with (go_at_call 65; fail)
      refine (HG.out s' w1 HI.out R1.out G1.out).mono ?_
      rintro e w2 ⟨rfl, hR2, hg2⟩
      rw [HS1.out] at hR2
      have R2 := Lib.hid hR2
      have G2 := Lib.hid (grown_next G1.out hg2)
      clear hR2 hg2 R1 G1
      rw [HV.out]
      rcases Nat.eq_zero_or_pos v with hv0 | hv0
      · subst hv0
        have t2 : (((0 : Nat) : Int) != 0) = false := rfl
        have HNy := Lib.hid (show endN B s' = ⟨s'.at_ + 1, 0⟩ from HNx.out)
        go_wp2
        go_roundw
        case rel => exact ⟨_, f', HIn.out, by rw [← HNy.out, ← HSt.out]; exact HQ.out, by show N ≤ s'.at_ + 1 + f'; omega, R2.out, G2.out⟩
        case measure =>
          rw [rdMu_at N R2.out, HMu.out, if_pos H0.out]
          simp only []
          split <;> omega
      · have t2 : ((v : Int) != 0) = true := by simp; omega
        have HNy := Lib.hid (show endN B s' = ⟨s'.at_ + 1, 4⟩ by rw [HNx.out, if_neg (by omega)])
        have HFa := Lib.hid (HF.out _ w2 R2.out)
        rw [HFl.out] at HFa
        go_wp2_with (go_at_call 66; fail)
        refine HFa.out.mono ?_
        rintro e w3 ⟨rfl, hR3, hg3⟩
        have R3 := Lib.hid hR3
        have G3 := Lib.hid (grown_next G2.out hg3)
        clear hR3 hg3
        go_wp2
        go_roundw
        case rel => exact ⟨⟨s'.at_ + 1, 4⟩, f', (show InB B ⟨s'.at_ + 1, 4⟩ from HIn.out), by rw [← HNy.out, ← HSt.out]; exact HQ.out, by show N ≤ s'.at_ + 1 + f'; omega, R3.out, G3.out⟩
        case measure =>
          rw [rdMu_at N R3.out, HMu.out, if_pos H0.out]
          simp only []
          split <;> omega
    · have hl : leftZ B.length s' = 0 := by
        unfold leftZ
        have := HN.out
        by_cases h0 : s'.er = 0
        · rw [if_pos h0]
          have : ¬ s'.at_ < N := fun h => hgo ⟨h0, h⟩
          omega
        · rw [if_neg h0]
      rw [hl] at HLf
      have HEr := Lib.hid (show E.er = s'.er by
        rw [← HQ.out, endS_stop]
        by_cases h0 : s'.er = 0
        · right
          have : ¬ s'.at_ < N := fun h => hgo ⟨h0, h⟩
          rw [HN.out]; omega
        · exact .inl h0)
      clear hgo hl
      go_wp2_with (go_at_call 90; fail)
      refine HLf.out.mono ?_
      rintro e w1 ⟨rfl, hb1⟩
      have c2 := H2.out w1 (hkeep HR.out hb1)
      have G1 := Lib.hid (grown_next HG1.out (grown_of hb1))
      clear hb1
      go_wp2
      go_ret
      exact ⟨by rw [HEr.out]; rfl, G1.out⟩
end Go.Proofs.YtoagdidkadfekaaGreatDoor
