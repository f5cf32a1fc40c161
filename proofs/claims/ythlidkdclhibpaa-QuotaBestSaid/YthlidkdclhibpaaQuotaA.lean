/- Contract of layer 43's Best; the law QuotaBest; conditions: as each theorem states. -/
import Derived.Test.YthlidkdclhibpaaSampF
namespace Go.Proofs.Ythlidkdclhibpaa
open Go.RowKit

def goodB (room : Int) (ss : List SampV) (size : Int) : Bool := decide (0 < imageZ size ss) && decide (imageZ size ss ≤ room)
/-- the greatest frame of the first so many whose image has room -/
def bestTo (room : Int) (ss : List SampV) : Nat → Int
  | 0 => 0
  | m + 1 => if goodB room ss (24 + (m : Int)) = true then 24 + (m : Int) else bestTo room ss m
theorem imageZ_bd (size : Int) (ss : List SampV) (hl : ss.length ≤ 19) : 0 ≤ imageZ size ss ∧ imageZ size ss ≤ 1000000000 := by
  unfold imageZ
  split
  · omega
  · rename_i h
    have h3 : checkAllZ ss = 0 := by
      rcases Int.lt_trichotomy (checkAllZ ss) 0 with h2 | h2 | h2
      · exact absurd (Or.inr (Or.inr (by omega))) h
      · exact h2
      · exact absurd (Or.inr (Or.inr (by omega))) h
    have hb := imgTo_bd size (16 + ss.length * 64 + 4) (by omega) (by omega) (by omega) (sortS ss) (fun s hs => check_all h3 s ((sortS_perm ss).subset hs))
    rw [(sortS_perm ss).length_eq] at hb
    unfold upZ
    omega

set_option maxRecDepth 100000 in
set_option maxHeartbeats 4000000 in
theorem Best_any (room : Int) (L : List (HSamp × SampV)) (A : Option Addr) (cap : Nat) (w : World) (hl : L.length ≤ 19) (hn : A = none → cap = 0) (hs : SampsAt w w.heap.size A L) :
    Calls Try.prog 58 #[.int .i64 room, .slice A L.length cap] w fun e w' => e = .returned (.int .i64 (bestTo room (L.map (·.2)) 73)) ∧ Below w.heap.size w w' := by
  have HQ := Lib.hid (fun size W (hW : Below w.heap.size w W) => Image_any size L A cap W hl hn (hs.later hW))
  have HI := Lib.hid (fun size => imageZ_bd size (L.map (·.2)) (by rw [List.length_map]; exact hl))
  generalize L.map (·.2) = ss at *
  generalize L.length = n at *
  obtain ⟨Z, hZ⟩ : ∃ Z, bestTo room ss 73 = Z := ⟨_, rfl⟩
  rw [hZ]
  have HZ := Lib.hid hZ
  clear hZ hs hn
  go_enter Try.func58, Try.ntmps58
  go_wp2
  go_loopw [5] (fun i wr => ∃ m : Nat, m ≤ 73 ∧ i = .int .i64 (23 + (m : Int)) ∧ bestTo room ss m = Z ∧ Below w.heap.size w wr) (fun i _ => (intOf i).toNat)
  case atStart => exact ⟨73, by omega, by first | rfl | go_num, HZ.out, Below.refl _ _⟩
  case round =>
    obtain ⟨m, hm, rfl, hb, hbel⟩ := hrel
    have Hb := Lib.hid hb
    have Hbel := Lib.hid hbel
    clear hb hbel
    cases m with
    | zero =>
      have t1 : ¬ ((24 : Int) ≤ 23 + ((0 : Nat) : Int)) := by omega
      go_wp2
      go_ret
      exact ⟨ret_int Hb.out, Hbel.out⟩
    | succ m =>
      have t1 : (24 : Int) ≤ 23 + ((m + 1 : Nat) : Int) := by omega
      have hbd := HI.out (24 + (m : Int))
      obtain ⟨I, hI⟩ : ∃ I, imageZ (24 + (m : Int)) ss = I := ⟨_, rfl⟩
      have HQ1 := Lib.hid (HQ.out (24 + (m : Int)) wr Hbel.out)
      rw [hI] at HQ1 hbd
      have HG := Lib.hid (show goodB room ss (24 + (m : Int)) = (decide (0 < I) && decide (I ≤ room)) by unfold goodB; rw [hI])
      rw [show (24 : Int) + (m : Int) = 23 + ((m + 1 : Nat) : Int) by omega] at HQ1
      have hsz : (23 : Int) + ((m + 1 : Nat) : Int) = 24 + (m : Int) := by omega
      have Hsz := Lib.hid hsz
      clear hI hsz
      generalize hq : (23 : Int) + ((m + 1 : Nat) : Int) = q at *
      have hq1 : q = 24 + (m : Int) := Hsz.out
      have hq24 : 24 ≤ q := by omega
      have hq96 : q ≤ 96 := by omega
      have Hq1 := Lib.hid hq1
      clear hq hq1 t1
      obtain ⟨hI0, hI1⟩ := hbd
      by_cases h1 : 0 < I
      · by_cases h2 : I ≤ room
        · have HF := Lib.hid (show Z = q by rw [← Hb.out, Hq1.out]; show (if goodB room ss (24 + (m : Int)) = true then 24 + (m : Int) else bestTo room ss m) = _; rw [HG.out, if_pos (by simp [h1, h2])])
          go_wp2_with fail
          refine HQ1.out.mono ?_
          rintro e w1 ⟨rfl, hb1⟩
          go_wp2
          go_ret
          exact ⟨ret_int HF.out.symm, bnext Hbel.out hb1⟩
        · have HF := Lib.hid (show bestTo room ss m = Z by rw [← Hb.out]; show _ = (if goodB room ss (24 + (m : Int)) = true then 24 + (m : Int) else bestTo room ss m); rw [HG.out, if_neg (by simp [h2])])
          go_wp2_with fail
          refine HQ1.out.mono ?_
          rintro e w1 ⟨rfl, hb1⟩
          go_wp2
          go_roundw
          case rel => exact ⟨m, by omega, by have := Hq1.out; exact val_int (by omega), HF.out, bnext Hbel.out hb1⟩
          case measure => simp [intOf]; omega
      · have HF := Lib.hid (show bestTo room ss m = Z by rw [← Hb.out]; show _ = (if goodB room ss (24 + (m : Int)) = true then 24 + (m : Int) else bestTo room ss m); rw [HG.out, if_neg (by simp [h1])])
        go_wp2_with fail
        refine HQ1.out.mono ?_
        rintro e w1 ⟨rfl, hb1⟩
        go_wp2
        go_roundw
        case rel => exact ⟨m, by omega, by have := Hq1.out; exact val_int (by omega), HF.out, bnext Hbel.out hb1⟩
        case measure => simp [intOf]; omega
end Go.Proofs.Ythlidkdclhibpaa
