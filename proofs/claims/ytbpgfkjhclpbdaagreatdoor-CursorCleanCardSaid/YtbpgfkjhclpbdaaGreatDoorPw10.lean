/- LibBits. Conditions: as each theorem states. -/
import Derived.Shelf.Small.Bits
import Derived.Shelf.Strconv.Itoa0
import Derived.Shelf.Sort.Plain
import Derived.Shelf.Slices.CompactS
import Derived.Shelf.Slices.Cells
import Derived.Shelf.Slices.In.SortNone
import Derived.Test.YtbpgfkjhclpbdaaGreatDoorPw01
namespace Go.Proofs.YtbpgfkjhclpbdaaGreatDoor
abbrev aIb:=@Go.Proofs.enters_of
open Tryz
open Go.Shelf Go.Sort
def TF:Go.Shelf.Ren:=⟨fun|125=>170|128=>197|129=>198|n=>n,fun|46=>187|3=>3|51=>36|53=>212|4=>4|5=>5|9=>9|n=>n,fun|n=>n⟩
theorem aEM:Go.Proofs.Lays.n125 prog TF:={
 mixed:=by kernel_rfl
 f125:=func170.trans (aGp some (by kernel_rfl))
 f128:=func197.trans (aGp some (by kernel_rfl))
 f129:=func198.trans (aGp some (by kernel_rfl))
 t3:=underlying3
 a3:=isAgg3
 z3:=sizeOf3
 v3:=zeroValue3
 t4:=underlying4
 a4:=isAgg4
 z4:=sizeOf4
 v4:=zeroValue4
 t5:=underlying5
 a5:=isAgg5
 z5:=sizeOf5
 v5:=zeroValue5
 t9:=underlying9
 a9:=isAgg9
 z9:=sizeOf9
 v9:=zeroValue9
 t46:=underlying187
 a46:=isAgg187
 z46:=sizeOf187
 v46:=zeroValue187
 t51:=underlying36
 a51:=isAgg36
 z51:=sizeOf36
 v51:=zeroValue36
 t53:=underlying212
 a53:=isAgg212
 z53:=sizeOf212
 v53:=zeroValue212 }
theorem aCR(x:Int)(w:World)(h0:0<=x)(h1:x<=18446744073709551615):
  Calls prog 170 #[.int .u64 x] w fun e w'=>e=.returned (.int .i64 (Lib.bitLen x.toNat))/\w'=w:=Any.bits_Len aEM x w h0 h1
end Go.Proofs.YtbpgfkjhclpbdaaGreatDoor
