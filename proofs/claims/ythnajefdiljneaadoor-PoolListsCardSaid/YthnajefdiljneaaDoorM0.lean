/- Texts of this claim, put together. -/
import Derived.Shelf.Strings.Builder1
import Derived.Shelf.Strings.Builder2
import Derived.Shelf.Strings.OnBuilder
import Derived.Shelf.Strings.Trim
import Derived.Shelf.Small.Utf8
import Derived.Shelf.Small.Strs
import Derived.Shelf.Small.Wraps
import Derived.Shelf.Strings.BuilderF
import Derived.Shelf.Strings.BuilderK
import Derived.Shelf.Strings.Builder2Cap
import Derived.Shelf.Strings.Search1
import Derived.Shelf.Strings.Prefix
import Derived.Shelf.Unicode.Decode
import Derived.Shelf.Strings.Runes
import Derived.Shelf.Strings.AsciiSet
import Derived.Shelf.Unicode.DecodeSlow
import Derived.Shelf.Unicode.DecodeAny
import Derived.Shelf.Strings.BuilderCap
import Derived.Shelf.Slices.Turned
import Derived.Test.YthnajefdiljneaaDoorProg
section
-- SQUEEZED
/-
  DERIVED: THE SHELF's CONTRACTS AT THIS DUMP, IN PLAIN WORDS (tools/lay-plain.mjs out of 'TrydShelf.lean', which tools/lay-shelf.mjs wrote): THE SAME DECLARATIONS UNDER THE SAME NAMES: 'import', 'namespace', 'open', 'def', 'theorem' AND NOTHING ELSE: no command of the shelf's: FOR A HAND-IN. Each laying: the table of numbers ('.._ren') and one theorem, a field a fact of the dump's own or the kernel's comparison; each contract: ONE APPLICATION.
-/
namespace Go.Proofs
open Go.Shelf
def Tryd.lays156_ren:Go.Shelf.Ren:=⟨fun|156=>72|165=>79|166=>80|169=>81|240=>86|241=>87|276=>91|277=>92|n=>n,fun|31=>31|9=>9|3=>3|4=>4|0=>0|20=>20|72=>102|76=>106|70=>100|37=>22|75=>105|127=>110|164=>117|5=>5|80=>108|n=>n,fun|n=>n⟩
theorem Tryd.lays156:Go.Proofs.Lays.n156 Tryd.prog Tryd.lays156_ren:={
 mixed:=by kernel_rfl
 f156:=Tryd.func72.trans (congrArg some (by kernel_rfl))
 f165:=Tryd.func79.trans (congrArg some (by kernel_rfl))
 f166:=Tryd.func80.trans (congrArg some (by kernel_rfl))
 f169:=Tryd.func81.trans (congrArg some (by kernel_rfl))
 f240:=Tryd.func86.trans (congrArg some (by kernel_rfl))
 f241:=Tryd.func87.trans (congrArg some (by kernel_rfl))
 f276:=Tryd.func91.trans (congrArg some (by kernel_rfl))
 f277:=Tryd.func92.trans (congrArg some (by kernel_rfl))
 t0:=Tryd.underlying0
 a0:=Tryd.isAgg0
 z0:=Tryd.sizeOf0
 v0:=Tryd.zeroValue0
 t3:=Tryd.underlying3
 a3:=Tryd.isAgg3
 z3:=Tryd.sizeOf3
 v3:=Tryd.zeroValue3
 t4:=Tryd.underlying4
 a4:=Tryd.isAgg4
 z4:=Tryd.sizeOf4
 v4:=Tryd.zeroValue4
 t9:=Tryd.underlying9
 a9:=Tryd.isAgg9
 z9:=Tryd.sizeOf9
 v9:=Tryd.zeroValue9
 t20:=Tryd.underlying20
 a20:=Tryd.isAgg20
 z20:=Tryd.sizeOf20
 v20:=Tryd.zeroValue20
 t31:=Tryd.underlying31
 a31:=Tryd.isAgg31
 z31:=Tryd.sizeOf31
 v31:=Tryd.zeroValue31
 t37:=Tryd.underlying22
 a37:=Tryd.isAgg22
 z37:=Tryd.sizeOf22
 v37:=Tryd.zeroValue22
 t70:=Tryd.underlying100
 a70:=Tryd.isAgg100
 z70:=Tryd.sizeOf100
 v70:=Tryd.zeroValue100
 t72:=Tryd.underlying102
 a72:=Tryd.isAgg102
 z72:=Tryd.sizeOf102
 v72:=Tryd.zeroValue102
 t75:=Tryd.underlying105
 a75:=Tryd.isAgg105
 z75:=Tryd.sizeOf105
 v75:=Tryd.zeroValue105
 t76:=Tryd.underlying106
 a76:=Tryd.isAgg106
 z76:=Tryd.sizeOf106
 v76:=Tryd.zeroValue106
 t127:=Tryd.underlying110
 a127:=Tryd.isAgg110
 z127:=Tryd.sizeOf110
 v127:=Tryd.zeroValue110
 t164:=Tryd.underlying117
 a164:=Tryd.isAgg117
 z164:=Tryd.sizeOf117
 v164:=Tryd.zeroValue117}
theorem Tryd.Builder_Extra_156:Builder.Extra Tryd.prog Tryd.lays156_ren:={
 sizeBuilder:=by kernel_rfl
 liesBuilder:=by kernel_rfl
 t5:=Tryd.underlying5
 a5:=Tryd.isAgg5
 z5:=Tryd.sizeOf5
 v5:=Tryd.zeroValue5
 infoByte:=by kernel_rfl
 cellsByte:=by kernel_rfl
 sizeByte:=by kernel_rfl
 neB5:=by decide}
open Go.RowKit in
theorem Tryd.strings_Join_none(a:Option Addr)(c:Nat)(sep:ByteArray)(w:World):
  Calls Tryd.prog 72 #[.slice a 0 c, .string sep] w fun e w'=>e= .returned (.string ⟨#[]⟩)∧w'=w:=Any.strings_Join_none Tryd.lays156 Tryd.Builder_Extra_156 a c sep w
open Go.RowKit in
theorem Tryd.strings_Join(bk o c:Nat)(xs:List ByteArray)(sep:ByteArray)(w:World)(hcells: ∀(j:Nat) x,xs[j]?=some x→w.cell? ⟨bk,o+j,none⟩=some (.string x))(hbk:bk<w.heap.size)(hN:xs.length≤140737488355328)(hcap:xs.length≤c)(hlen:(Lib.join (xs.map (·.data.toList)) sep.data.toList).length≤140737488355328):
  Calls Tryd.prog 72 #[.slice (some ⟨bk,o,none⟩) xs.length c, .string sep] w fun e w'=>e= .returned (.string ⟨(Lib.join (xs.map (·.data.toList)) sep.data.toList).toArray⟩)∧Below w.heap.size w w':=Any.strings_Join Tryd.lays156 Tryd.Builder_Extra_156 bk o c xs sep w hcells hbk hN hcap hlen
def Tryd.lays161_ren:Go.Shelf.Ren:=⟨fun|161=>33|231=>57|227=>58|233=>59|235=>60|228=>73|197=>74|151=>75|260=>82|152=>83|137=>71|119=>88|224=>89|225=>90|217=>78|266=>85|n=>n,fun|9=>9|4=>4|3=>3|5=>5|117=>85|116=>84|0=>0|124=>88|105=>97|21=>21|119=>111|46=>90|139=>114|138=>113|n=>n,fun|3=>0|4=>1|n=>n⟩
theorem Tryd.lays161:Go.Proofs.Lays.n161 Tryd.prog Tryd.lays161_ren:={
 mixed:=by kernel_rfl
 f119:=Tryd.func88.trans (congrArg some (by kernel_rfl))
 f137:=Tryd.func71.trans (congrArg some (by kernel_rfl))
 f151:=Tryd.func75.trans (congrArg some (by kernel_rfl))
 f152:=Tryd.func83.trans (congrArg some (by kernel_rfl))
 f161:=Tryd.func33.trans (congrArg some (by kernel_rfl))
 f197:=Tryd.func74.trans (congrArg some (by kernel_rfl))
 f217:=Tryd.func78.trans (congrArg some (by kernel_rfl))
 f224:=Tryd.func89.trans (congrArg some (by kernel_rfl))
 f225:=Tryd.func90.trans (congrArg some (by kernel_rfl))
 f227:=Tryd.func58.trans (congrArg some (by kernel_rfl))
 f228:=Tryd.func73.trans (congrArg some (by kernel_rfl))
 f231:=Tryd.func57.trans (congrArg some (by kernel_rfl))
 f233:=Tryd.func59.trans (congrArg some (by kernel_rfl))
 f235:=Tryd.func60.trans (congrArg some (by kernel_rfl))
 f260:=Tryd.func82.trans (congrArg some (by kernel_rfl))
 f266:=Tryd.func85.trans (congrArg some (by kernel_rfl))
 t0:=Tryd.underlying0
 a0:=Tryd.isAgg0
 z0:=Tryd.sizeOf0
 v0:=Tryd.zeroValue0
 t3:=Tryd.underlying3
 a3:=Tryd.isAgg3
 z3:=Tryd.sizeOf3
 v3:=Tryd.zeroValue3
 t4:=Tryd.underlying4
 a4:=Tryd.isAgg4
 z4:=Tryd.sizeOf4
 v4:=Tryd.zeroValue4
 t5:=Tryd.underlying5
 a5:=Tryd.isAgg5
 z5:=Tryd.sizeOf5
 v5:=Tryd.zeroValue5
 t9:=Tryd.underlying9
 a9:=Tryd.isAgg9
 z9:=Tryd.sizeOf9
 v9:=Tryd.zeroValue9
 t21:=Tryd.underlying21
 a21:=Tryd.isAgg21
 z21:=Tryd.sizeOf21
 v21:=Tryd.zeroValue21
 t46:=Tryd.underlying90
 a46:=Tryd.isAgg90
 z46:=Tryd.sizeOf90
 v46:=Tryd.zeroValue90
 t105:=Tryd.underlying97
 a105:=Tryd.isAgg97
 z105:=Tryd.sizeOf97
 v105:=Tryd.zeroValue97
 t116:=Tryd.underlying84
 a116:=Tryd.isAgg84
 z116:=Tryd.sizeOf84
 t117:=Tryd.underlying85
 a117:=Tryd.isAgg85
 z117:=Tryd.sizeOf85
 v117:=Tryd.zeroValue85
 t119:=Tryd.underlying111
 a119:=Tryd.isAgg111
 z119:=Tryd.sizeOf111
 t124:=Tryd.underlying88
 a124:=Tryd.isAgg88
 z124:=Tryd.sizeOf88
 v124:=Tryd.zeroValue88
 t138:=Tryd.underlying113
 a138:=Tryd.isAgg113
 z138:=Tryd.sizeOf113
 v138:=Tryd.zeroValue113
 t139:=Tryd.underlying114
 a139:=Tryd.isAgg114
 z139:=Tryd.sizeOf114
 v139:=Tryd.zeroValue114
 g3:=by kernel_rfl
 g4:=by kernel_rfl}
open Go.RowKit in
theorem Tryd.strings_TrimLeft_one(s:ByteArray)(c:UInt8)(hc:c.toNat<128)(w:World):
  Calls Tryd.prog 33 #[.string s, .string ⟨#[c]⟩] w fun e w'=>e= .returned (.string ⟨(Lib.trimLeftB s.data.toList c).toArray⟩)∧w'=w:=Any.strings_TrimLeft_one Tryd.lays161 s c hc w
def Tryd.lays137_ren:Go.Shelf.Ren:=⟨fun|137=>71|217=>78|266=>85|n=>n,fun|9=>9|5=>5|3=>3|n=>n,fun|n=>n⟩
theorem Tryd.lays137:Go.Proofs.Lays.n137 Tryd.prog Tryd.lays137_ren:={
 mixed:=by kernel_rfl
 f137:=Tryd.func71.trans (congrArg some (by kernel_rfl))
 f217:=Tryd.func78.trans (congrArg some (by kernel_rfl))
 f266:=Tryd.func85.trans (congrArg some (by kernel_rfl))
 t3:=Tryd.underlying3
 a3:=Tryd.isAgg3
 z3:=Tryd.sizeOf3
 v3:=Tryd.zeroValue3
 t5:=Tryd.underlying5
 a5:=Tryd.isAgg5
 z5:=Tryd.sizeOf5
 v5:=Tryd.zeroValue5
 t9:=Tryd.underlying9
 a9:=Tryd.isAgg9
 z9:=Tryd.sizeOf9
 v9:=Tryd.zeroValue9}
open Go.RowKit in
theorem Tryd.strings_IndexByte(s:ByteArray)(c:Int)(w:World):
  Calls Tryd.prog 71 #[.string s, .int .u8 c] w fun e w'=>e= .returned (.int .i64 (Lib.indexByte s.data.toList c.toNat.toUInt8))∧w'=w:=Any.strings_IndexByte Tryd.lays137 s c w
end Go.Proofs
end
