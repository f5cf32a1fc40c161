/- LibTrim. Conditions: as each theorem states. -/
import Derived.Shelf.SlGeneric
import Derived.Shelf.Strings.Trim
import Derived.Shelf.SlicesQ.Equal
import Derived.Ground.SlgqProg
import Derived.Test.YtgcfkblmnpnogaaGreatDoorPq01
namespace Go.Proofs.YtgcfkblmnpnogaaGreatDoor
open Go.Shelf
def lays162_ren:Go.Shelf.Ren:=⟨fun | 162=>123 | 232=>147 | 227=>148 | 234=>149 | 236=>150 | 228=>173 | 271=>174 | 151=>175 | 120=>213 | 197=>214 | 152=>215 | 260=>241 | 137=>242 | 119=>243 | 224=>244 | 225=>245 | 217=>259 | 266=>264 | n=>n,fun | 9=>9 | 4=>4 | 3=>3 | 5=>5 | 117=>234 | 116=>233 | 0=>0 | 124=>237 | 21=>21 | 105=>266 | 46=>187 | 119=>337 | 139=>340 | 138=>339 | n=>n,fun | 3=>1 | 4=>2 | n=>n⟩
theorem lays162:Go.Proofs.Lays.n162 Tryz.prog lays162_ren:={
 mixed:=by kernel_rfl
 f119:=Tryz.func243.trans (congrArg some (by kernel_rfl))
 f120:=Tryz.func213.trans (congrArg some (by kernel_rfl))
 f137:=Tryz.func242.trans (congrArg some (by kernel_rfl))
 f151:=Tryz.func175.trans (congrArg some (by kernel_rfl))
 f152:=Tryz.func215.trans (congrArg some (by kernel_rfl))
 f162:=Tryz.func123.trans (congrArg some (by kernel_rfl))
 f197:=Tryz.func214.trans (congrArg some (by kernel_rfl))
 f217:=Tryz.func259.trans (congrArg some (by kernel_rfl))
 f224:=Tryz.func244.trans (congrArg some (by kernel_rfl))
 f225:=Tryz.func245.trans (congrArg some (by kernel_rfl))
 f227:=Tryz.func148.trans (congrArg some (by kernel_rfl))
 f228:=Tryz.func173.trans (congrArg some (by kernel_rfl))
 f232:=Tryz.func147.trans (congrArg some (by kernel_rfl))
 f234:=Tryz.func149.trans (congrArg some (by kernel_rfl))
 f236:=Tryz.func150.trans (congrArg some (by kernel_rfl))
 f260:=Tryz.func241.trans (congrArg some (by kernel_rfl))
 f266:=Tryz.func264.trans (congrArg some (by kernel_rfl))
 f271:=Tryz.func174.trans (congrArg some (by kernel_rfl))
 t0:=Tryz.underlying0
 a0:=Tryz.isAgg0
 z0:=Tryz.sizeOf0
 v0:=Tryz.zeroValue0
 t3:=Tryz.underlying3
 a3:=Tryz.isAgg3
 z3:=Tryz.sizeOf3
 v3:=Tryz.zeroValue3
 t4:=Tryz.underlying4
 a4:=Tryz.isAgg4
 z4:=Tryz.sizeOf4
 v4:=Tryz.zeroValue4
 t5:=Tryz.underlying5
 a5:=Tryz.isAgg5
 z5:=Tryz.sizeOf5
 v5:=Tryz.zeroValue5
 t9:=Tryz.underlying9
 a9:=Tryz.isAgg9
 z9:=Tryz.sizeOf9
 v9:=Tryz.zeroValue9
 t21:=Tryz.underlying21
 a21:=Tryz.isAgg21
 z21:=Tryz.sizeOf21
 v21:=Tryz.zeroValue21
 t46:=Tryz.underlying187
 a46:=Tryz.isAgg187
 z46:=Tryz.sizeOf187
 v46:=Tryz.zeroValue187
 t105:=Tryz.underlying266
 a105:=Tryz.isAgg266
 z105:=Tryz.sizeOf266
 v105:=Tryz.zeroValue266
 t116:=Tryz.underlying233
 a116:=Tryz.isAgg233
 z116:=Tryz.sizeOf233
 t117:=Tryz.underlying234
 a117:=Tryz.isAgg234
 z117:=Tryz.sizeOf234
 v117:=Tryz.zeroValue234
 t119:=Tryz.underlying337
 a119:=Tryz.isAgg337
 z119:=Tryz.sizeOf337
 t124:=Tryz.underlying237
 a124:=Tryz.isAgg237
 z124:=Tryz.sizeOf237
 v124:=Tryz.zeroValue237
 t138:=Tryz.underlying339
 a138:=Tryz.isAgg339
 z138:=Tryz.sizeOf339
 v138:=Tryz.zeroValue339
 t139:=Tryz.underlying340
 a139:=Tryz.isAgg340
 z139:=Tryz.sizeOf340
 v139:=Tryz.zeroValue340
 g3:=by kernel_rfl
 g4:=by kernel_rfl }
open Go.RowKit in
theorem strings_TrimRight_one (s:ByteArray) (c:UInt8) (hc:c.toNat < 128) (w:World) (hs:s.size<=9223372036854775807) :
  Calls Tryz.prog 123 #[.string s,.string ⟨#[c]⟩] w fun e w'=>e=.returned (.string ⟨(Lib.trimRightB s.data.toList c).toArray⟩)/\w'=w:=Any.strings_TrimRight_one lays162 s c hc w hs
def metaEq_ren:Go.Shelf.Ren:=⟨fun | 8=>78 | n=>n,fun | 22=>22 | 24=>27 | 4=>4 | 3=>3 | 0=>0 | n=>n,fun | n=>n⟩
theorem metaEq:Go.Proofs.SlLaysQ.n8 Tryz.prog metaEq_ren:={
 mixed:=by kernel_rfl
 f8:=⟨Tryz.f78.name,by decide,Tryz.func78.trans (congrArg some (by kernel_rfl))⟩
 t0:=Tryz.underlying0
 a0:=Tryz.isAgg0
 z0:=Tryz.sizeOf0
 v0:=Tryz.zeroValue0
 t3:=Tryz.underlying3
 a3:=Tryz.isAgg3
 z3:=Tryz.sizeOf3
 v3:=Tryz.zeroValue3
 t4:=Tryz.underlying4
 a4:=Tryz.isAgg4
 z4:=Tryz.sizeOf4
 v4:=Tryz.zeroValue4
 t22:=Tryz.underlying22
 a22:=Tryz.isAgg22
 z22:=Tryz.sizeOf22
 v22:=Tryz.zeroValue22 }
end Go.Proofs.YtgcfkblmnpnogaaGreatDoor
