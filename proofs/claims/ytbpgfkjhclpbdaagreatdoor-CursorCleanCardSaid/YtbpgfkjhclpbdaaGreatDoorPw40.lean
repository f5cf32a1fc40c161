/- CostP. Conditions: as each theorem states. -/
import Derived.Test.YtbpgfkjhclpbdaaGreatDoorPw30
import Derived.Test.YtbpgfkjhclpbdaaGreatDoorPw39
namespace Go.Proofs.YtbpgfkjhclpbdaaGreatDoor
open Tryz
open Go.RowKit
def aCv(d:List Int):Prop:=d.length<=150/\nT d
def aCw(s:aFM):Prop:=s.rows.length<=2/\∀ r∈s.rows,aCv r
theorem JU{s:aFM}(h:s.check=0)(U:s.small):aCw s:=by
 unfold aFM.check j2 at h;cases h1:dY s.name
 ·simp[h1]at h
 ·by_cases h2:s.rate<1\/192000<s.rate
  ·simp[h1,h2]at h
  ·by_cases d:s.rows.length<1\/2<s.rows.length\/dD s.rows<1\/1048576<dD s.rows
   ·rw[sL (by simp[h1]),sL h2,FN d]at h;omega
   ·cases z:lK s.lp s.f s.t (dD s.rows)
    ·rw[sL (by simp[h1]),sL h2,sL d,FN z]at h;omega
    ·cases I:s.rows.all (vG (dD s.rows))
     ·rw[sL (by simp[h1]),sL h2,sL d,sL (by simp[z]),FN I]at h;omega
     ·cases F:s.rows.all ES
      ·rw[sL (by simp[h1]),sL h2,sL d,sL (by simp[z]),sL (by simp[I]),FN F]at h;omega
      ·refine⟨by omega,fun r O=>⟨U.2.2 r O,fun x V=>?_⟩⟩;rw[aGD]at F;have G:=F r O;unfold ES at G;rw[aGD]at G;have J:=G x V;unfold inS at J;simp only[aGu,aGy]at J;omega
/-! Nothing is lost in frames of 55 bytes and more. -/
end Go.Proofs.YtbpgfkjhclpbdaaGreatDoor
