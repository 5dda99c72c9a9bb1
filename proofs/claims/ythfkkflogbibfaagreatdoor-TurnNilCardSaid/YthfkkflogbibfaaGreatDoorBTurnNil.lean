/- TurnNil: the machine's answer. -/
import Derived.Test.YthfkkflogbibfaaGreatDoorB0
import Derived.Test.YthfkkflogbibfaaGreatDoorRows
import Derived.LaidSub
namespace Go.Proofs.YthfkkflogbibfaaGreatDoor.AM
open Go.Proofs Go.RowKit
set_option linter.unusedVariables false
noncomputable def ETurnNil : Env := { P := Tryz.prog, C := C0, G := fun _ => none, M := 10000, L := fun _ _ => false, LC := fun _ => false, S := fun t => !Tryz.prog.stoodInHeld t }
theorem turnNil_runs (a0 : ByteArray) : val (acall ETurnNil 500 4 [.str a0] []) = .ok (.bool true) := by kernel_rfl
theorem turnNil (W : World) (hX : laidMetH Tryz.prog Rows.turnNilRow.laid W) (a0 : ByteArray) (_ : a0.size ≤ 140737488351232) : Calls Tryz.prog 4 #[.string a0] W fun e w' => e = .returned (.bool true) ∧ Below W.heap.size W w' := by
  obtain ⟨h', hh⟩ := val_ok (turnNil_runs a0)
  refine calls_bool (E := ETurnNil) (fun t h => by simpa [ETurnNil] using h) (cok0 rfl rfl) (by kernel_rfl) hh (CRs.cons (.str _) (.nil)) ?_
  exact fun i cs h => by cases h
end Go.Proofs.YthfkkflogbibfaaGreatDoor.AM
