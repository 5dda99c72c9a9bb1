-- SQUEEZED
/-
  DERIVED: THE SHELF's CONTRACTS AT THIS DUMP, IN PLAIN WORDS (tools/lay-plain.mjs out of 'TryzShelf.lean', which tools/lay-shelf.mjs wrote): THE SAME DECLARATIONS UNDER THE SAME NAMES: 'import', 'namespace', 'open', 'def', 'theorem' AND NOTHING ELSE: no command of the shelf's: FOR A HAND-IN. Each laying: the table of numbers ('.._ren') and one theorem, a field a fact of the dump's own or the kernel's comparison; each contract: ONE APPLICATION.
-/
import Derived.Shelf.Strings.Builder1
import Derived.Shelf.Strings.Builder2
import Derived.Shelf.Strings.OnBuilder
import Derived.Shelf.Strings.Trim
import Derived.Shelf.Small.Utf8
import Derived.Shelf.Small.Bits
import Derived.Shelf.Small.Strs
import Derived.Shelf.Small.Wraps
import Derived.Shelf.Strings.BuilderF
import Derived.Shelf.Strings.BuilderK
import Derived.Shelf.Strings.Builder2Cap
import Derived.Shelf.Strconv.Itoa0
import Derived.Shelf.Strings.Search1
import Derived.Shelf.Strings.Prefix
import Derived.Shelf.Unicode.Decode
import Derived.Shelf.Strings.Runes
import Derived.Shelf.Strings.AsciiSet
import Derived.Shelf.Unicode.DecodeSlow
import Derived.Shelf.Unicode.DecodeAny
import Derived.Shelf.Strings.BuilderCap
import Derived.Shelf.Slices.Turned
import Derived.Ground.Names2Prog
import Derived.Shelf.Slices.Clone
import Derived.Shelf.Slices.CompactI
import Derived.Shelf.Slices.SearchI
import Derived.Shelf.Slices.Cells
import Derived.Ground.SlgnProg
import Derived.Shelf.SlicesE.Clone
import Derived.Test.YtcocmlmligjjcaaGreatDoorProg
namespace Go.Proofs
open Go.Shelf
def Tryz.lays156_ren:Go.Shelf.Ren:=⟨fun|156=>261|165=>310|166=>311|169=>312|240=>351|241=>352|276=>372|277=>373|n=>n,fun|31=>91|9=>9|3=>3|4=>4|0=>0|20=>20|72=>450|76=>453|70=>448|37=>296|75=>452|127=>483|164=>492|5=>5|80=>412|n=>n,fun|n=>n⟩
theorem Tryz.lays156:Go.Proofs.Lays.n156 Tryz.prog Tryz.lays156_ren:={
 mixed:=by kernel_rfl
 f156:=Tryz.func261.trans (congrArg some (by kernel_rfl))
 f165:=Tryz.func310.trans (congrArg some (by kernel_rfl))
 f166:=Tryz.func311.trans (congrArg some (by kernel_rfl))
 f169:=Tryz.func312.trans (congrArg some (by kernel_rfl))
 f240:=Tryz.func351.trans (congrArg some (by kernel_rfl))
 f241:=Tryz.func352.trans (congrArg some (by kernel_rfl))
 f276:=Tryz.func372.trans (congrArg some (by kernel_rfl))
 f277:=Tryz.func373.trans (congrArg some (by kernel_rfl))
 t0:=Tryz.underlying0
 a0:=Tryz.isAgg0
 z0:=Tryz.sizeOf0
 v0:=Tryz.zeroValue0
 t3:=Tryz.underlying3
 a3:=Tryz.isAgg3
 z3:=Tryz.sizeOf3
 v3:=Tryz.zeroValue3
 t4:=Tryz.underlying4
 a4:=Tryz.isAgg4
 z4:=Tryz.sizeOf4
 v4:=Tryz.zeroValue4
 t9:=Tryz.underlying9
 a9:=Tryz.isAgg9
 z9:=Tryz.sizeOf9
 v9:=Tryz.zeroValue9
 t20:=Tryz.underlying20
 a20:=Tryz.isAgg20
 z20:=Tryz.sizeOf20
 v20:=Tryz.zeroValue20
 t31:=Tryz.underlying91
 a31:=Tryz.isAgg91
 z31:=Tryz.sizeOf91
 v31:=Tryz.zeroValue91
 t37:=Tryz.underlying296
 a37:=Tryz.isAgg296
 z37:=Tryz.sizeOf296
 v37:=Tryz.zeroValue296
 t70:=Tryz.underlying448
 a70:=Tryz.isAgg448
 z70:=Tryz.sizeOf448
 v70:=Tryz.zeroValue448
 t72:=Tryz.underlying450
 a72:=Tryz.isAgg450
 z72:=Tryz.sizeOf450
 v72:=Tryz.zeroValue450
 t75:=Tryz.underlying452
 a75:=Tryz.isAgg452
 z75:=Tryz.sizeOf452
 v75:=Tryz.zeroValue452
 t76:=Tryz.underlying453
 a76:=Tryz.isAgg453
 z76:=Tryz.sizeOf453
 v76:=Tryz.zeroValue453
 t127:=Tryz.underlying483
 a127:=Tryz.isAgg483
 z127:=Tryz.sizeOf483
 v127:=Tryz.zeroValue483
 t164:=Tryz.underlying492
 a164:=Tryz.isAgg492
 z164:=Tryz.sizeOf492
 v164:=Tryz.zeroValue492}
theorem Tryz.Builder_Extra_156:Builder.Extra Tryz.prog Tryz.lays156_ren:={
 sizeBuilder:=by kernel_rfl
 liesBuilder:=by kernel_rfl
 t5:=Tryz.underlying5
 a5:=Tryz.isAgg5
 z5:=Tryz.sizeOf5
 v5:=Tryz.zeroValue5
 infoByte:=by kernel_rfl
 cellsByte:=by kernel_rfl
 sizeByte:=by kernel_rfl
 neB5:=by decide}
open Go.RowKit in
theorem Tryz.strings_Join_none(a:Option Addr)(c:Nat)(sep:ByteArray)(w:World):
  Calls Tryz.prog 261 #[.slice a 0 c, .string sep] w fun e w'=>e= .returned (.string ⟨#[]⟩)∧w'=w:=Any.strings_Join_none Tryz.lays156 Tryz.Builder_Extra_156 a c sep w
open Go.RowKit in
theorem Tryz.strings_Join(bk o c:Nat)(xs:List ByteArray)(sep:ByteArray)(w:World)(hcells: ∀(j:Nat) x,xs[j]?=some x→w.cell? ⟨bk,o+j,none⟩=some (.string x))(hbk:bk<w.heap.size)(hN:xs.length≤140737488355328)(hcap:xs.length≤c)(hlen:(Lib.join (xs.map (·.data.toList)) sep.data.toList).length≤140737488355328):
  Calls Tryz.prog 261 #[.slice (some ⟨bk,o,none⟩) xs.length c, .string sep] w fun e w'=>e= .returned (.string ⟨(Lib.join (xs.map (·.data.toList)) sep.data.toList).toArray⟩)∧Below w.heap.size w w':=Any.strings_Join Tryz.lays156 Tryz.Builder_Extra_156 bk o c xs sep w hcells hbk hN hcap hlen
def Tryz.lays161_ren:Go.Shelf.Ren:=⟨fun|161=>223|231=>284|227=>285|233=>286|235=>287|228=>323|197=>324|151=>325|260=>357|152=>358|137=>260|119=>374|224=>375|225=>376|217=>309|266=>350|n=>n,fun|9=>9|4=>4|3=>3|5=>5|117=>428|116=>427|0=>0|124=>431|105=>460|21=>21|119=>495|46=>424|139=>498|138=>497|n=>n,fun|3=>2|4=>3|n=>n⟩
theorem Tryz.lays161:Go.Proofs.Lays.n161 Tryz.prog Tryz.lays161_ren:={
 mixed:=by kernel_rfl
 f119:=Tryz.func374.trans (congrArg some (by kernel_rfl))
 f137:=Tryz.func260.trans (congrArg some (by kernel_rfl))
 f151:=Tryz.func325.trans (congrArg some (by kernel_rfl))
 f152:=Tryz.func358.trans (congrArg some (by kernel_rfl))
 f161:=Tryz.func223.trans (congrArg some (by kernel_rfl))
 f197:=Tryz.func324.trans (congrArg some (by kernel_rfl))
 f217:=Tryz.func309.trans (congrArg some (by kernel_rfl))
 f224:=Tryz.func375.trans (congrArg some (by kernel_rfl))
 f225:=Tryz.func376.trans (congrArg some (by kernel_rfl))
 f227:=Tryz.func285.trans (congrArg some (by kernel_rfl))
 f228:=Tryz.func323.trans (congrArg some (by kernel_rfl))
 f231:=Tryz.func284.trans (congrArg some (by kernel_rfl))
 f233:=Tryz.func286.trans (congrArg some (by kernel_rfl))
 f235:=Tryz.func287.trans (congrArg some (by kernel_rfl))
 f260:=Tryz.func357.trans (congrArg some (by kernel_rfl))
 f266:=Tryz.func350.trans (congrArg some (by kernel_rfl))
 t0:=Tryz.underlying0
 a0:=Tryz.isAgg0
 z0:=Tryz.sizeOf0
 v0:=Tryz.zeroValue0
 t3:=Tryz.underlying3
 a3:=Tryz.isAgg3
 z3:=Tryz.sizeOf3
 v3:=Tryz.zeroValue3
 t4:=Tryz.underlying4
 a4:=Tryz.isAgg4
 z4:=Tryz.sizeOf4
 v4:=Tryz.zeroValue4
 t5:=Tryz.underlying5
 a5:=Tryz.isAgg5
 z5:=Tryz.sizeOf5
 v5:=Tryz.zeroValue5
 t9:=Tryz.underlying9
 a9:=Tryz.isAgg9
 z9:=Tryz.sizeOf9
 v9:=Tryz.zeroValue9
 t21:=Tryz.underlying21
 a21:=Tryz.isAgg21
 z21:=Tryz.sizeOf21
 v21:=Tryz.zeroValue21
 t46:=Tryz.underlying424
 a46:=Tryz.isAgg424
 z46:=Tryz.sizeOf424
 v46:=Tryz.zeroValue424
 t105:=Tryz.underlying460
 a105:=Tryz.isAgg460
 z105:=Tryz.sizeOf460
 v105:=Tryz.zeroValue460
 t116:=Tryz.underlying427
 a116:=Tryz.isAgg427
 z116:=Tryz.sizeOf427
 t117:=Tryz.underlying428
 a117:=Tryz.isAgg428
 z117:=Tryz.sizeOf428
 v117:=Tryz.zeroValue428
 t119:=Tryz.underlying495
 a119:=Tryz.isAgg495
 z119:=Tryz.sizeOf495
 t124:=Tryz.underlying431
 a124:=Tryz.isAgg431
 z124:=Tryz.sizeOf431
 v124:=Tryz.zeroValue431
 t138:=Tryz.underlying497
 a138:=Tryz.isAgg497
 z138:=Tryz.sizeOf497
 v138:=Tryz.zeroValue497
 t139:=Tryz.underlying498
 a139:=Tryz.isAgg498
 z139:=Tryz.sizeOf498
 v139:=Tryz.zeroValue498
 g3:=by kernel_rfl
 g4:=by kernel_rfl}
open Go.RowKit in
theorem Tryz.strings_TrimLeft_one(s:ByteArray)(c:UInt8)(hc:c.toNat<128)(w:World):
  Calls Tryz.prog 223 #[.string s, .string ⟨#[c]⟩] w fun e w'=>e= .returned (.string ⟨(Lib.trimLeftB s.data.toList c).toArray⟩)∧w'=w:=Any.strings_TrimLeft_one Tryz.lays161 s c hc w
def Tryz.lays137_ren:Go.Shelf.Ren:=⟨fun|137=>260|217=>309|266=>350|n=>n,fun|9=>9|5=>5|3=>3|n=>n,fun|n=>n⟩
theorem Tryz.lays137:Go.Proofs.Lays.n137 Tryz.prog Tryz.lays137_ren:={
 mixed:=by kernel_rfl
 f137:=Tryz.func260.trans (congrArg some (by kernel_rfl))
 f217:=Tryz.func309.trans (congrArg some (by kernel_rfl))
 f266:=Tryz.func350.trans (congrArg some (by kernel_rfl))
 t3:=Tryz.underlying3
 a3:=Tryz.isAgg3
 z3:=Tryz.sizeOf3
 v3:=Tryz.zeroValue3
 t5:=Tryz.underlying5
 a5:=Tryz.isAgg5
 z5:=Tryz.sizeOf5
 v5:=Tryz.zeroValue5
 t9:=Tryz.underlying9
 a9:=Tryz.isAgg9
 z9:=Tryz.sizeOf9
 v9:=Tryz.zeroValue9}
open Go.RowKit in
theorem Tryz.strings_IndexByte(s:ByteArray)(c:Int)(w:World):
  Calls Tryz.prog 260 #[.string s, .int .u8 c] w fun e w'=>e= .returned (.int .i64 (Lib.indexByte s.data.toList c.toNat.toUInt8))∧w'=w:=Any.strings_IndexByte Tryz.lays137 s c w
end Go.Proofs
