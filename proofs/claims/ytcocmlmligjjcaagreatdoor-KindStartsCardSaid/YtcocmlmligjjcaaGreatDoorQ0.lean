-- SQUEEZED
-- Written by the program wip/tools/mp.py of this work, which drives the print of the kit; hand texts of this session among it.
import Derived.Test.YtcocmlmligjjcaaGreatDoorProg
import Derived.Below
import Derived.Deep.Draws
import Derived.Deep.AppendLies
import Derived.Maps.AppendAt
import Derived.OwnWalk
import Derived.Laws.BytesArg
import Derived.Laws.MakeOwn
import Derived.Laws.OwnMore
import Derived.Deep.OwnRows
import Derived.Tactics
import Derived.Lib.ConvBytes
import Derived.Laws.Slices
import Derived.WalkKit
import Derived.KernelRfl
import Derived.RowKit3
import Derived.Deep.LoopGhost
import Derived.Deep.QuietTactic
import Derived.BigQuiet
import Derived.WideLaws
import Derived.Deep.DeepCutAuto
import Derived.Deep.CutBlock
import Derived.Deep.RegionHeld3
import Derived.Laws.Rows
import Derived.Lib.AppendStr
import Derived.ArgAppend
import Derived.Laws.IdiomCopy
import Derived.OrdersHeld
import Derived.Laws.BitsLemmas
import Derived.RowKit
import Derived.WalkSpells
import Derived.WalkLawsBesides
import Derived.Laws.StructEq
import Derived.Test.YtcocmlmligjjcaaGreatDoorHW
import Derived.Test.YtcocmlmligjjcaaGreatDoorHM
import Derived.Test.YtcocmlmligjjcaaGreatDoorShelf
import Derived.Test.YtcocmlmligjjcaaGreatDoorWWords
import Derived.Test.YtcocmlmligjjcaaGreatDoorWLast
import Derived.Test.YtcocmlmligjjcaaGreatDoorWGuard
import Derived.Test.YtcocmlmligjjcaaGreatDoorWEqStruct
import Derived.Test.YtcocmlmligjjcaaGreatDoorWRepsOne
import Derived.Test.YtcocmlmligjjcaaGreatDoorWApart
namespace Go.Proofs.YtcocmlmligjjcaaGreatDoor.Q
open Go.RowKit Go.Proofs.HW Go.Proofs.YtcocmlmligjjcaaGreatDoorW.PrintWords Go.Proofs.YtcocmlmligjjcaaGreatDoorW.PrintLast
set_option linter.unusedVariables false
set_option linter.unusedSimpArgs false
theorem info9:(Tryz.prog.info? 9).map (fun i=>(i.zero,i.size,i.bytes))=some (some (.string ⟨#[]⟩),1,16):=by kernel_rfl
-- the values' own types
end Go.Proofs.YtcocmlmligjjcaaGreatDoor.Q
