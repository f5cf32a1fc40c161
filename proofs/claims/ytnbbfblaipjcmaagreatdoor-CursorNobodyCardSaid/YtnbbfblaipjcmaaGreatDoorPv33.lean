/- LibCmp, LibSort. Conditions: as each theorem states. -/
import Derived.Shelf.Small.Bits
import Derived.Shelf.Small.Strs
import Derived.Shelf.Strconv.Itoa0
import Derived.Shelf.Sort.Plain
import Derived.Shelf.Slices.CompactS
import Derived.Shelf.Slices.Cells
import Derived.Shelf.Slices.In.SortNone
import Derived.Test.YtnbbfblaipjcmaaGreatDoorPv01
namespace Go.Proofs.YtnbbfblaipjcmaaGreatDoor
section
open Go.Shelf Go.Sort
def PL:Go.Shelf.Ren:=⟨fun | 106=>172 | 213=>199 | 265=>230 | n=>n,fun | 9=>9 | 3=>3 | n=>n,fun | n=>n⟩
theorem aC4:Go.Proofs.Lays.n106 Tryz.prog PL:={
 mixed:=by kernel_rfl
 f106:=Tryz.func172.trans (congrArg some (by kernel_rfl))
 f213:=Tryz.func199.trans (congrArg some (by kernel_rfl))
 f265:=Tryz.func230.trans (congrArg some (by kernel_rfl))
 t3:=Tryz.underlying3
 a3:=Tryz.isAgg3
 z3:=Tryz.sizeOf3
 v3:=Tryz.zeroValue3
 t9:=Tryz.underlying9
 a9:=Tryz.isAgg9
 z9:=Tryz.sizeOf9
 v9:=Tryz.zeroValue9 }
open Go.RowKit in
theorem AV (a b:ByteArray) (w:World) :
  Calls Tryz.prog 172 #[.string a,.string b] w fun e w'=>e=.returned (.int .i64 (Lib.compareBytes a.data.toList b.data.toList))/\w'=w:=Any.strings_Compare aC4 a b w
end
section
open Go.Shelf Go.Sort
def PP:Go.Shelf.Ren:=⟨fun | 190=>168 | 125=>197 | 258=>196 | 128=>226 | 129=>227 | 302=>217 | 303=>218 | 304=>219 | 305=>220 | 306=>221 | 307=>222 | 308=>223 | 309=>224 | 310=>225 | 333=>251 | 329=>252 | 330=>253 | 334=>254 | 335=>255 | 336=>256 | 344=>270 | n=>n,fun | 31=>162 | 9=>9 | 3=>3 | 46=>218 | 0=>0 | 51=>70 | 53=>176 | 4=>4 | 183=>326 | 182=>325 | 131=>331 | 5=>5 | 218=>355 | 222=>359 | 228=>368 | 229=>192 | n=>n,fun | n=>n⟩
theorem W9:Go.Proofs.Lays.n190 Tryz.prog PP:={
 mixed:=by kernel_rfl
 f125:=Tryz.func197.trans (congrArg some (by kernel_rfl))
 f128:=Tryz.func226.trans (congrArg some (by kernel_rfl))
 f129:=Tryz.func227.trans (congrArg some (by kernel_rfl))
 f190:=Tryz.func168.trans (congrArg some (by kernel_rfl))
 f258:=Tryz.func196.trans (congrArg some (by kernel_rfl))
 f302:=Tryz.func217.trans (congrArg some (by kernel_rfl))
 f303:=Tryz.func218.trans (congrArg some (by kernel_rfl))
 f304:=Tryz.func219.trans (congrArg some (by kernel_rfl))
 f305:=Tryz.func220.trans (congrArg some (by kernel_rfl))
 f306:=Tryz.func221.trans (congrArg some (by kernel_rfl))
 f307:=Tryz.func222.trans (congrArg some (by kernel_rfl))
 f308:=Tryz.func223.trans (congrArg some (by kernel_rfl))
 f309:=Tryz.func224.trans (congrArg some (by kernel_rfl))
 f310:=Tryz.func225.trans (congrArg some (by kernel_rfl))
 f329:=Tryz.func252.trans (congrArg some (by kernel_rfl))
 f330:=Tryz.func253.trans (congrArg some (by kernel_rfl))
 f333:=Tryz.func251.trans (congrArg some (by kernel_rfl))
 f334:=Tryz.func254.trans (congrArg some (by kernel_rfl))
 f335:=Tryz.func255.trans (congrArg some (by kernel_rfl))
 f336:=Tryz.func256.trans (congrArg some (by kernel_rfl))
 f344:=Tryz.func270.trans (congrArg some (by kernel_rfl))
 t0:=Tryz.underlying0
 a0:=Tryz.isAgg0
 z0:=Tryz.sizeOf0
 v0:=Tryz.zeroValue0
 t3:=Tryz.underlying3
 a3:=Tryz.isAgg3
 z3:=Tryz.sizeOf3
 v3:=Tryz.zeroValue3
 t4:=Tryz.underlying4
 a4:=Tryz.isAgg4
 z4:=Tryz.sizeOf4
 v4:=Tryz.zeroValue4
 t5:=Tryz.underlying5
 a5:=Tryz.isAgg5
 z5:=Tryz.sizeOf5
 v5:=Tryz.zeroValue5
 t9:=Tryz.underlying9
 a9:=Tryz.isAgg9
 z9:=Tryz.sizeOf9
 v9:=Tryz.zeroValue9
 t31:=Tryz.underlying162
 a31:=Tryz.isAgg162
 z31:=Tryz.sizeOf162
 v31:=Tryz.zeroValue162
 t46:=Tryz.underlying218
 a46:=Tryz.isAgg218
 z46:=Tryz.sizeOf218
 v46:=Tryz.zeroValue218
 t51:=Tryz.underlying70
 a51:=Tryz.isAgg70
 z51:=Tryz.sizeOf70
 v51:=Tryz.zeroValue70
 t53:=Tryz.underlying176
 a53:=Tryz.isAgg176
 z53:=Tryz.sizeOf176
 v53:=Tryz.zeroValue176
 t131:=Tryz.underlying331
 a131:=Tryz.isAgg331
 z131:=Tryz.sizeOf331
 v131:=Tryz.zeroValue331
 t182:=Tryz.underlying325
 a182:=Tryz.isAgg325
 z182:=Tryz.sizeOf325
 v182:=Tryz.zeroValue325
 t183:=Tryz.underlying326
 a183:=Tryz.isAgg326
 z183:=Tryz.sizeOf326
 v183:=Tryz.zeroValue326
 t218:=Tryz.underlying355
 a218:=Tryz.isAgg355
 z218:=Tryz.sizeOf355
 v218:=Tryz.zeroValue355
 t222:=Tryz.underlying359
 a222:=Tryz.isAgg359
 z222:=Tryz.sizeOf359
 v222:=Tryz.zeroValue359
 t228:=Tryz.underlying368
 a228:=Tryz.isAgg368
 z228:=Tryz.sizeOf368
 v228:=Tryz.zeroValue368
 t229:=Tryz.underlying192
 a229:=Tryz.isAgg192
 z229:=Tryz.sizeOf192
 v229:=Tryz.zeroValue192 }
open Go.Sort Go.RowKit in
theorem vE (blk off cap:Nat) (ss:List (List UInt8)) (w:World) (hH:Holds encStr w blk off ss.toArray) (hblk:blk < w.heap.size) (hsz:ss.length < 4611686018427387904) :
  Calls Tryz.prog 168 #[.slice (some ⟨blk,off,none⟩) ss.length cap] w fun e w' =>
   e=.returned (.tuple #[])/\∃ n os,w'=grow (putRow encStr (Sort.ahead w n) blk off (ss.mergeSort fun x y=>decide (x<=y)).toArray) os:=Any.slices_Sort_string W9 blk off cap ss w hH hblk hsz
open Go.RowKit Go.Lib Go.Sort in
open Go.RowKit Go.Lib Go.Sort in
open Go.RowKit Go.Lib Go.Sort in
theorem pI (p:Option Addr) (cap:Nat) (w:World) :
  Calls Tryz.prog 168 #[.slice p 0 cap] w fun e w'=>e=.returned (.tuple #[])/\w'=w:=Any.slices_Sort_string_none W9 p cap w
end
end Go.Proofs.YtnbbfblaipjcmaaGreatDoor
