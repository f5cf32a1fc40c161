/- LibCmp, LibSort. Conditions: as each theorem states. -/
import Derived.Shelf.Small.Bits
import Derived.Shelf.Small.Strs
import Derived.Shelf.Strconv.Itoa0
import Derived.Shelf.Sort.Plain
import Derived.Shelf.Slices.CompactS
import Derived.Shelf.Slices.Cells
import Derived.Shelf.Slices.In.SortNone
import Derived.Test.YtbpgfkjhclpbdaaGreatDoorPw01
namespace Go.Proofs.YtbpgfkjhclpbdaaGreatDoor
open Tryz
open Go.Shelf Go.Sort
section
def TE:Go.Shelf.Ren:=⟨fun|106=>142|213=>172|265=>201|n=>n,fun|9=>9|3=>3|n=>n,fun|n=>n⟩
theorem aEL:Go.Proofs.Lays.n106 prog TE:={
 mixed:=by kernel_rfl
 f106:=func142.trans (aGp some (by kernel_rfl))
 f213:=func172.trans (aGp some (by kernel_rfl))
 f265:=func201.trans (aGp some (by kernel_rfl))
 t3:=underlying3
 a3:=isAgg3
 z3:=sizeOf3
 v3:=zeroValue3
 t9:=underlying9
 a9:=isAgg9
 z9:=sizeOf9
 v9:=zeroValue9 }
open Go.RowKit in
theorem DG(a b:ByteArray)(w:World):
  Calls prog 142 #[.string a,.string b] w fun e w'=>e=.returned (.int .i64 (Lib.compareBytes a.data.toList b.data.toList))/\w'=w:=Any.strings_Compare aEL a b w
end
section
def TH:Go.Shelf.Ren:=⟨fun|190=>138|125=>170|258=>169|128=>197|129=>198|302=>188|303=>189|304=>190|305=>191|306=>192|307=>193|308=>194|309=>195|310=>196|333=>220|329=>221|330=>222|334=>223|335=>224|336=>225|344=>239|n=>n,fun|31=>241|9=>9|3=>3|46=>187|0=>0|51=>36|53=>212|4=>4|183=>296|182=>295|131=>301|5=>5|218=>323|222=>327|228=>336|229=>160|n=>n,fun|n=>n⟩
theorem aAp:Go.Proofs.Lays.n190 prog TH:={
 mixed:=by kernel_rfl
 f125:=func170.trans (aGp some (by kernel_rfl))
 f128:=func197.trans (aGp some (by kernel_rfl))
 f129:=func198.trans (aGp some (by kernel_rfl))
 f190:=func138.trans (aGp some (by kernel_rfl))
 f258:=func169.trans (aGp some (by kernel_rfl))
 f302:=func188.trans (aGp some (by kernel_rfl))
 f303:=func189.trans (aGp some (by kernel_rfl))
 f304:=func190.trans (aGp some (by kernel_rfl))
 f305:=func191.trans (aGp some (by kernel_rfl))
 f306:=func192.trans (aGp some (by kernel_rfl))
 f307:=func193.trans (aGp some (by kernel_rfl))
 f308:=func194.trans (aGp some (by kernel_rfl))
 f309:=func195.trans (aGp some (by kernel_rfl))
 f310:=func196.trans (aGp some (by kernel_rfl))
 f329:=func221.trans (aGp some (by kernel_rfl))
 f330:=func222.trans (aGp some (by kernel_rfl))
 f333:=func220.trans (aGp some (by kernel_rfl))
 f334:=func223.trans (aGp some (by kernel_rfl))
 f335:=func224.trans (aGp some (by kernel_rfl))
 f336:=func225.trans (aGp some (by kernel_rfl))
 f344:=func239.trans (aGp some (by kernel_rfl))
 t0:=underlying0
 a0:=isAgg0
 z0:=sizeOf0
 v0:=zeroValue0
 t3:=underlying3
 a3:=isAgg3
 z3:=sizeOf3
 v3:=zeroValue3
 t4:=underlying4
 a4:=isAgg4
 z4:=sizeOf4
 v4:=zeroValue4
 t5:=underlying5
 a5:=isAgg5
 z5:=sizeOf5
 v5:=zeroValue5
 t9:=underlying9
 a9:=isAgg9
 z9:=sizeOf9
 v9:=zeroValue9
 t31:=underlying241
 a31:=isAgg241
 z31:=sizeOf241
 v31:=zeroValue241
 t46:=underlying187
 a46:=isAgg187
 z46:=sizeOf187
 v46:=zeroValue187
 t51:=underlying36
 a51:=isAgg36
 z51:=sizeOf36
 v51:=zeroValue36
 t53:=underlying212
 a53:=isAgg212
 z53:=sizeOf212
 v53:=zeroValue212
 t131:=underlying301
 a131:=isAgg301
 z131:=sizeOf301
 v131:=zeroValue301
 t182:=underlying295
 a182:=isAgg295
 z182:=sizeOf295
 v182:=zeroValue295
 t183:=underlying296
 a183:=isAgg296
 z183:=sizeOf296
 v183:=zeroValue296
 t218:=underlying323
 a218:=isAgg323
 z218:=sizeOf323
 v218:=zeroValue323
 t222:=underlying327
 a222:=isAgg327
 z222:=sizeOf327
 v222:=zeroValue327
 t228:=underlying336
 a228:=isAgg336
 z228:=sizeOf336
 v228:=zeroValue336
 t229:=underlying160
 a229:=isAgg160
 z229:=sizeOf160
 v229:=zeroValue160 }
open Go.Sort Go.RowKit in
theorem xC(blk off cap:Nat)(ss:List (List UInt8))(w:World)(hH:Holds encStr w blk off ss.toArray)(hblk:blk<w.heap.size)(hsz:ss.length<4611686018427387904):
  Calls prog 138 #[.slice (some ⟨blk,off,none⟩) ss.length cap] w fun e w' =>
   e=.returned (.tuple #[])/\∃ n os,w'=grow (putRow encStr (Sort.ahead w n) blk off (ss.mergeSort fun x y=>decide (x<=y)).toArray) os:=Any.slices_Sort_string aAp blk off cap ss w hH hblk hsz
open Go.RowKit Go.Lib Go.Sort in
open Go.RowKit Go.Lib Go.Sort in
open Go.RowKit Go.Lib Go.Sort in
theorem qM(p:Option Addr)(cap:Nat)(w:World):
  Calls prog 138 #[.slice p 0 cap] w fun e w'=>e=.returned (.tuple #[])/\w'=w:=Any.slices_Sort_string_none aAp p cap w
end
end Go.Proofs.YtbpgfkjhclpbdaaGreatDoor
