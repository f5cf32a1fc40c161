/- Contracts of layer 3's Width, Near, Peak; conditions: as each theorem states. -/
import Derived.Test.YtbgkoopfdfnmcaaNumP
import Derived.Test.YtbgkoopfdfnmcaaMem
import Derived.Test.YtbgkoopfdfnmcaaArr
namespace Go.Proofs.Ytbgkoopfdfnmcaa
open Go.RowKit

theorem i64_not (v : Int) (h1 : -9223372036854775808 ≤ v) (h2 : v ≤ 9223372036854775807) : bits .xor .i64 (-1) v = -v - 1 := by
  have key : (BitVec.ofInt 64 (-1) ^^^ BitVec.ofInt 64 v).toNat = 2 ^ 64 - 1 - (v % ((2 ^ 64 : Nat) : Int)).toNat := by
    rw [show BitVec.ofInt 64 (-1) = BitVec.allOnes 64 by decide, BitVec.allOnes_xor, BitVec.toNat_not, BitVec.toNat_ofInt]
  show IntKind.i64.wrap ((BitVec.ofInt 64 (-1) ^^^ BitVec.ofInt 64 v).toNat : Nat) = -v - 1
  rw [key, IntKind.wrap_i64]
  omega

theorem shl_one (p : Nat) : (1 : Int) * 2 ^ p = 2 ^ p := Int.one_mul _

end Go.Proofs.Ytbgkoopfdfnmcaa
