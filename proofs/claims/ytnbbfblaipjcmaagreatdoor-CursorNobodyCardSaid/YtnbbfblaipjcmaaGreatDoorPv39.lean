/- CostP. Conditions: as each theorem states. -/
import Derived.Test.YtnbbfblaipjcmaaGreatDoorPv30
import Derived.Test.YtnbbfblaipjcmaaGreatDoorPv38
namespace Go.Proofs.YtnbbfblaipjcmaaGreatDoor
open Go.RowKit
def aAP (d:List Int):Prop:=d.length<=150/\mQ d
def aAQ (s:SampV):Prop:=s.rows.length<=2/\∀ r ∈ s.rows,aAP r
theorem GS {s:SampV} (h:s.check=0) (hs:s.small):aAQ s:=by
 unfold SampV.check jE at h
 cases h1:dK s.name
 ·simp [h1] at h
 ·by_cases h2:s.rate < 1\/192000 < s.rate
  ·simp [h1,h2] at h
  ·by_cases h3:s.rows.length < 1\/2 < s.rows.length\/dV s.rows < 1\/1048576 < dV s.rows
   ·rw [if_neg (by simp [h1]),if_neg h2,if_pos h3] at h; omega
   ·cases h4:kM s.lp s.f s.t (dV s.rows)
    ·rw [if_neg (by simp [h1]),if_neg h2,if_neg h3,if_pos h4] at h; omega
    ·cases h5:s.rows.all (tR (dV s.rows))
     ·rw [if_neg (by simp [h1]),if_neg h2,if_neg h3,if_neg (by simp [h4]),if_pos h5] at h; omega
     ·cases h6:s.rows.all CO
      ·rw [if_neg (by simp [h1]),if_neg h2,if_neg h3,if_neg (by simp [h4]),if_neg (by simp [h5]),if_pos h6] at h; omega
      ·refine ⟨by omega,fun r hr=>⟨hs.2.2 r hr,fun x hx=>?_⟩⟩
       rw [List.all_eq_true] at h6
       have h7:=h6 r hr
       unfold CO at h7
       rw [List.all_eq_true] at h7
       have h8:=h7 x hx
       unfold inS at h8
       simp only [Bool.and_eq_true,decide_eq_true_eq] at h8
       omega
/-! Nothing is lost in frames of 55 bytes and more. -/
end Go.Proofs.YtnbbfblaipjcmaaGreatDoor
