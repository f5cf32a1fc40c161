/- LibTrim. Conditions: as each theorem states. -/
import Derived.Shelf.SlGeneric
import Derived.Shelf.Strings.Trim
import Derived.Shelf.SlicesQ.Equal
import Derived.Ground.SlgqProg
import Derived.Test.YtbpgfkjhclpbdaaGreatDoorPw01
namespace Go.Proofs.YtbpgfkjhclpbdaaGreatDoor
open Tryz
open Go.Shelf
def TG:Go.Shelf.Ren:=⟨fun|162=>150|232=>179|227=>180|234=>181|236=>182|228=>216|271=>217|151=>218|120=>236|197=>237|152=>238|260=>249|137=>250|119=>251|224=>252|225=>253|217=>258|266=>268|n=>n,fun|9=>9|4=>4|3=>3|5=>5|117=>286|116=>285|0=>0|124=>289|21=>21|105=>319|46=>187|119=>347|139=>350|138=>349|n=>n,fun|3=>1|4=>2|n=>n⟩
theorem aEN:Go.Proofs.Lays.n162 prog TG:={
 mixed:=by kernel_rfl
 f119:=func251.trans (aGp some (by kernel_rfl))
 f120:=func236.trans (aGp some (by kernel_rfl))
 f137:=func250.trans (aGp some (by kernel_rfl))
 f151:=func218.trans (aGp some (by kernel_rfl))
 f152:=func238.trans (aGp some (by kernel_rfl))
 f162:=func150.trans (aGp some (by kernel_rfl))
 f197:=func237.trans (aGp some (by kernel_rfl))
 f217:=func258.trans (aGp some (by kernel_rfl))
 f224:=func252.trans (aGp some (by kernel_rfl))
 f225:=func253.trans (aGp some (by kernel_rfl))
 f227:=func180.trans (aGp some (by kernel_rfl))
 f228:=func216.trans (aGp some (by kernel_rfl))
 f232:=func179.trans (aGp some (by kernel_rfl))
 f234:=func181.trans (aGp some (by kernel_rfl))
 f236:=func182.trans (aGp some (by kernel_rfl))
 f260:=func249.trans (aGp some (by kernel_rfl))
 f266:=func268.trans (aGp some (by kernel_rfl))
 f271:=func217.trans (aGp some (by kernel_rfl))
 t0:=underlying0
 a0:=isAgg0
 z0:=sizeOf0
 v0:=zeroValue0
 t3:=underlying3
 a3:=isAgg3
 z3:=sizeOf3
 v3:=zeroValue3
 t4:=underlying4
 a4:=isAgg4
 z4:=sizeOf4
 v4:=zeroValue4
 t5:=underlying5
 a5:=isAgg5
 z5:=sizeOf5
 v5:=zeroValue5
 t9:=underlying9
 a9:=isAgg9
 z9:=sizeOf9
 v9:=zeroValue9
 t21:=underlying21
 a21:=isAgg21
 z21:=sizeOf21
 v21:=zeroValue21
 t46:=underlying187
 a46:=isAgg187
 z46:=sizeOf187
 v46:=zeroValue187
 t105:=underlying319
 a105:=isAgg319
 z105:=sizeOf319
 v105:=zeroValue319
 t116:=underlying285
 a116:=isAgg285
 z116:=sizeOf285
 t117:=underlying286
 a117:=isAgg286
 z117:=sizeOf286
 v117:=zeroValue286
 t119:=underlying347
 a119:=isAgg347
 z119:=sizeOf347
 t124:=underlying289
 a124:=isAgg289
 z124:=sizeOf289
 v124:=zeroValue289
 t138:=underlying349
 a138:=isAgg349
 z138:=sizeOf349
 v138:=zeroValue349
 t139:=underlying350
 a139:=isAgg350
 z139:=sizeOf350
 v139:=zeroValue350
 g3:=by kernel_rfl
 g4:=by kernel_rfl }
open Go.RowKit in
theorem sS(s:ByteArray)(c:UInt8)(hc:c.toNat<128)(w:World)(hs:s.size<=9223372036854775807):
  Calls prog 150 #[.string s,.string ⟨#[c]⟩] w fun e w'=>e=.returned (.string ⟨(Lib.trimRightB s.data.toList c).toArray⟩)/\w'=w:=Any.strings_TrimRight_one aEN s c hc w hs
def YH:Go.Shelf.Ren:=⟨fun|8=>102|n=>n,fun|22=>144|24=>101|4=>4|3=>3|0=>0|n=>n,fun|n=>n⟩
theorem aFj:Go.Proofs.SlLaysQ.n8 prog YH:={
 mixed:=by kernel_rfl
 f8:=⟨f102.name,by decide,func102.trans (aGp some (by kernel_rfl))⟩
 t0:=underlying0
 a0:=isAgg0
 z0:=sizeOf0
 v0:=zeroValue0
 t3:=underlying3
 a3:=isAgg3
 z3:=sizeOf3
 v3:=zeroValue3
 t4:=underlying4
 a4:=isAgg4
 z4:=sizeOf4
 v4:=zeroValue4
 t22:=underlying144
 a22:=isAgg144
 z22:=sizeOf144
 v22:=zeroValue144 }
end Go.Proofs.YtbpgfkjhclpbdaaGreatDoor
