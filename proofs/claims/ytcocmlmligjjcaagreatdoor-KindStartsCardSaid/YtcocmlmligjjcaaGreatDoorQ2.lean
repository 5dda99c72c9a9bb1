-- SQUEEZED
-- Written by the program wip/tools/mp.py of this work, which drives the print of the kit; hand texts of this session among it.
import Derived.Test.YtcocmlmligjjcaaGreatDoorQ0
namespace Go.Proofs.YtcocmlmligjjcaaGreatDoor.Q
open Go.RowKit Go.Proofs.HW Go.Proofs.YtcocmlmligjjcaaGreatDoorW.PrintWords Go.Proofs.YtcocmlmligjjcaaGreatDoorW.PrintLast
set_option linter.unusedVariables false
set_option linter.unusedSimpArgs false
-- HANDTEXT
def strings_TrimLeft.f(a0:ByteArray)(a1:ByteArray):Option (ByteArray):=if a1=(⟨#[91]⟩:ByteArray)then some (⟨(Lib.trimLeftB a0.data.toList 91).toArray⟩:ByteArray)else none
theorem strings_TrimLeft.calls(a0:ByteArray)(a1:ByteArray)(r:ByteArray)(w:World)(h:strings_TrimLeft.f a0 a1=some r):
  Calls Tryz.prog 223 #[.string a0, .string a1] w fun e w'=>e= .returned (.string r)∧Drawn0 w w':=by
 unfold strings_TrimLeft.f at h;split at h
 ·rename_i h1
  subst h1;obtain rfl:=Option.some.inj h
  exact(Tryz.strings_TrimLeft_one a0 91 (by decide) w).mono fun e w' ⟨he,hw⟩=>⟨he,hw▸Drawn0.refl _⟩
 ·cases h
end Go.Proofs.YtcocmlmligjjcaaGreatDoor.Q
