-- SQUEEZED
-- Written by the program wip/tools/mp.py of this work, which drives the print of the kit; hand texts of this session among it.
import Derived.Test.YtaooangghieljaaGreatDoorProg
import Derived.Below
import Derived.Deep.Draws
import Derived.Deep.AppendLies
import Derived.Maps.AppendAt
import Derived.OwnWalk
import Derived.Laws.BytesArg
import Derived.Laws.MakeOwn
import Derived.Laws.OwnMore
import Derived.Deep.OwnRows
import Derived.Tactics
import Derived.Lib.ConvBytes
import Derived.Laws.Slices
import Derived.WalkKit
import Derived.KernelRfl
import Derived.RowKit3
import Derived.Deep.LoopGhost
import Derived.Deep.QuietTactic
import Derived.BigQuiet
import Derived.WideLaws
import Derived.Deep.DeepCutAuto
import Derived.Deep.CutBlock
import Derived.Deep.RegionHeld3
import Derived.Laws.Rows
import Derived.Lib.AppendStr
import Derived.ArgAppend
import Derived.Laws.IdiomCopy
import Derived.OrdersHeld
import Derived.Laws.BitsLemmas
import Derived.RowKit
import Derived.WalkSpells
import Derived.WalkLawsBesides
import Derived.Laws.StructEq
import Derived.Test.YtaooangghieljaaGreatDoorHW
import Derived.Test.YtaooangghieljaaGreatDoorHM
import Derived.Test.YtaooangghieljaaGreatDoorShelf
import Derived.Test.YtaooangghieljaaGreatDoorWWords
import Derived.Test.YtaooangghieljaaGreatDoorWLast
import Derived.Test.YtaooangghieljaaGreatDoorWGuard
import Derived.Test.YtaooangghieljaaGreatDoorWEqStruct
import Derived.Test.YtaooangghieljaaGreatDoorWRepsOne
import Derived.Test.YtaooangghieljaaGreatDoorWApart
namespace Go.Proofs.YtaooangghieljaaGreatDoor.Q
open Go.RowKit Go.Proofs.HW Go.Proofs.YtaooangghieljaaGreatDoorW.PrintWords Go.Proofs.YtaooangghieljaaGreatDoorW.PrintLast
set_option linter.unusedVariables false
set_option linter.unusedSimpArgs false
theorem info9:(Tryz.prog.info? 9).map (fun i=>(i.zero,i.size,i.bytes))=some (some (.string ⟨#[]⟩),1,16):=by kernel_rfl
-- the values' own types
structure S57 where
 f0:Int
 f1:Int
 f2:ByteArray
 f3:ByteArray
 f4:ByteArray
def z57:S57:=⟨(0:Int),(0:Int),(⟨#[]⟩:ByteArray),(⟨#[]⟩:ByteArray),(⟨#[]⟩:ByteArray)⟩
def rd_T57(xs:List S57)(i:Int):S57:=xs.getD i.toNat z57
end Go.Proofs.YtaooangghieljaaGreatDoor.Q
