/- LibTrim. Conditions: as each theorem states. -/
import Derived.Shelf.SlGeneric
import Derived.Shelf.Strings.Trim
import Derived.Shelf.SlicesQ.Equal
import Derived.Ground.SlgqProg
import Derived.Test.YtnbbfblaipjcmaaGreatDoorPv01
namespace Go.Proofs.YtnbbfblaipjcmaaGreatDoor
open Go.Shelf
def PO:Go.Shelf.Ren:=⟨fun | 162=>179 | 232=>206 | 227=>207 | 234=>208 | 236=>209 | 228=>245 | 271=>246 | 151=>247 | 120=>267 | 197=>268 | 152=>269 | 260=>280 | 137=>281 | 119=>282 | 224=>283 | 225=>284 | 217=>289 | 266=>299 | n=>n,fun | 9=>9 | 4=>4 | 3=>3 | 5=>5 | 117=>315 | 116=>314 | 0=>0 | 124=>318 | 21=>21 | 105=>348 | 46=>218 | 119=>379 | 139=>382 | 138=>381 | n=>n,fun | 3=>1 | 4=>2 | n=>n⟩
theorem aC6:Go.Proofs.Lays.n162 Tryz.prog PO:={
 mixed:=by kernel_rfl
 f119:=Tryz.func282.trans (congrArg some (by kernel_rfl))
 f120:=Tryz.func267.trans (congrArg some (by kernel_rfl))
 f137:=Tryz.func281.trans (congrArg some (by kernel_rfl))
 f151:=Tryz.func247.trans (congrArg some (by kernel_rfl))
 f152:=Tryz.func269.trans (congrArg some (by kernel_rfl))
 f162:=Tryz.func179.trans (congrArg some (by kernel_rfl))
 f197:=Tryz.func268.trans (congrArg some (by kernel_rfl))
 f217:=Tryz.func289.trans (congrArg some (by kernel_rfl))
 f224:=Tryz.func283.trans (congrArg some (by kernel_rfl))
 f225:=Tryz.func284.trans (congrArg some (by kernel_rfl))
 f227:=Tryz.func207.trans (congrArg some (by kernel_rfl))
 f228:=Tryz.func245.trans (congrArg some (by kernel_rfl))
 f232:=Tryz.func206.trans (congrArg some (by kernel_rfl))
 f234:=Tryz.func208.trans (congrArg some (by kernel_rfl))
 f236:=Tryz.func209.trans (congrArg some (by kernel_rfl))
 f260:=Tryz.func280.trans (congrArg some (by kernel_rfl))
 f266:=Tryz.func299.trans (congrArg some (by kernel_rfl))
 f271:=Tryz.func246.trans (congrArg some (by kernel_rfl))
 t0:=Tryz.underlying0
 a0:=Tryz.isAgg0
 z0:=Tryz.sizeOf0
 v0:=Tryz.zeroValue0
 t3:=Tryz.underlying3
 a3:=Tryz.isAgg3
 z3:=Tryz.sizeOf3
 v3:=Tryz.zeroValue3
 t4:=Tryz.underlying4
 a4:=Tryz.isAgg4
 z4:=Tryz.sizeOf4
 v4:=Tryz.zeroValue4
 t5:=Tryz.underlying5
 a5:=Tryz.isAgg5
 z5:=Tryz.sizeOf5
 v5:=Tryz.zeroValue5
 t9:=Tryz.underlying9
 a9:=Tryz.isAgg9
 z9:=Tryz.sizeOf9
 v9:=Tryz.zeroValue9
 t21:=Tryz.underlying21
 a21:=Tryz.isAgg21
 z21:=Tryz.sizeOf21
 v21:=Tryz.zeroValue21
 t46:=Tryz.underlying218
 a46:=Tryz.isAgg218
 z46:=Tryz.sizeOf218
 v46:=Tryz.zeroValue218
 t105:=Tryz.underlying348
 a105:=Tryz.isAgg348
 z105:=Tryz.sizeOf348
 v105:=Tryz.zeroValue348
 t116:=Tryz.underlying314
 a116:=Tryz.isAgg314
 z116:=Tryz.sizeOf314
 t117:=Tryz.underlying315
 a117:=Tryz.isAgg315
 z117:=Tryz.sizeOf315
 v117:=Tryz.zeroValue315
 t119:=Tryz.underlying379
 a119:=Tryz.isAgg379
 z119:=Tryz.sizeOf379
 t124:=Tryz.underlying318
 a124:=Tryz.isAgg318
 z124:=Tryz.sizeOf318
 v124:=Tryz.zeroValue318
 t138:=Tryz.underlying381
 a138:=Tryz.isAgg381
 z138:=Tryz.sizeOf381
 v138:=Tryz.zeroValue381
 t139:=Tryz.underlying382
 a139:=Tryz.isAgg382
 z139:=Tryz.sizeOf382
 v139:=Tryz.zeroValue382
 g3:=by kernel_rfl
 g4:=by kernel_rfl }
open Go.RowKit in
theorem rH (s:ByteArray) (c:UInt8) (hc:c.toNat < 128) (w:World) (hs:s.size<=9223372036854775807) :
  Calls Tryz.prog 179 #[.string s,.string ⟨#[c]⟩] w fun e w'=>e=.returned (.string ⟨(Lib.trimRightB s.data.toList c).toArray⟩)/\w'=w:=Any.strings_TrimRight_one aC6 s c hc w hs
def U4:Go.Shelf.Ren:=⟨fun | 8=>133 | n=>n,fun | 22=>26 | 24=>37 | 4=>4 | 3=>3 | 0=>0 | n=>n,fun | n=>n⟩
theorem aDB:Go.Proofs.SlLaysQ.n8 Tryz.prog U4:={
 mixed:=by kernel_rfl
 f8:=⟨Tryz.f133.name,by decide,Tryz.func133.trans (congrArg some (by kernel_rfl))⟩
 t0:=Tryz.underlying0
 a0:=Tryz.isAgg0
 z0:=Tryz.sizeOf0
 v0:=Tryz.zeroValue0
 t3:=Tryz.underlying3
 a3:=Tryz.isAgg3
 z3:=Tryz.sizeOf3
 v3:=Tryz.zeroValue3
 t4:=Tryz.underlying4
 a4:=Tryz.isAgg4
 z4:=Tryz.sizeOf4
 v4:=Tryz.zeroValue4
 t22:=Tryz.underlying26
 a22:=Tryz.isAgg26
 z22:=Tryz.sizeOf26
 v22:=Tryz.zeroValue26 }
end Go.Proofs.YtnbbfblaipjcmaaGreatDoor
