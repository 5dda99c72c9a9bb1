-- SQUEEZED
-- Written by the program wip/tools/mp.py of this work, which drives the print of the kit; hand texts of this session among it.
import Derived.Test.YtcocmlmligjjcaaGreatDoorQ0
namespace Go.Proofs.YtcocmlmligjjcaaGreatDoor.Q
open Go.RowKit Go.Proofs.HW Go.Proofs.YtcocmlmligjjcaaGreatDoorW.PrintWords Go.Proofs.YtcocmlmligjjcaaGreatDoorW.PrintLast
set_option linter.unusedVariables false
set_option linter.unusedSimpArgs false
-- HANDTEXT
def strings_IndexByte.f(a0:ByteArray)(a1:Int):Option (Int):=some (Lib.indexByte a0.data.toList a1.toNat.toUInt8)
theorem strings_IndexByte.calls(a0:ByteArray)(a1:Int)(r:Int)(w:World)(h:strings_IndexByte.f a0 a1=some r):
  Calls Tryz.prog 260 #[.string a0, .int .u8 a1] w fun e w'=>e= .returned (.int .i64 r)∧Drawn0 w w':=by
 obtain rfl:=Option.some.inj h
 exact(Tryz.strings_IndexByte a0 a1 w).mono fun e w' ⟨he,hw⟩=>⟨he,hw▸Drawn0.refl _⟩
end Go.Proofs.YtcocmlmligjjcaaGreatDoor.Q
