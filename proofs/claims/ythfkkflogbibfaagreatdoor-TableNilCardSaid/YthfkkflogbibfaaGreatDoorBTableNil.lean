/- TableNil: the machine's answer. -/
import Derived.Test.YthfkkflogbibfaaGreatDoorB0
import Derived.Test.YthfkkflogbibfaaGreatDoorB1
import Derived.Test.YthfkkflogbibfaaGreatDoorRows
import Derived.LaidSub
namespace Go.Proofs.YthfkkflogbibfaaGreatDoor.AM
open Go.Proofs Go.RowKit
set_option linter.unusedVariables false
noncomputable def ETableNil : Env := { P := Tryz.prog, C := C0, G := fun g => if g = 0 then some formsL else none, M := 10000, L := fun f _ => f == 27, LC := fun _ => false, S := fun t => !Tryz.prog.stoodInHeld t }
theorem tableNil_runs (a0 : ByteArray) (a1 : ByteArray) : val (acall ETableNil 500 5 [.str a0, .str a1] []) = .ok (.bool true) := by kernel_rfl
theorem tableNil (W : World) (hX : laidMetH Tryz.prog Rows.tableNilRow.laid W) (a0 : ByteArray) (_ : a0.size ≤ 140737488351232) (a1 : ByteArray) (_ : a1.size ≤ 140737488351232) : Calls Tryz.prog 5 #[.string a0, .string a1] W fun e w' => e = .returned (.bool true) ∧ Below W.heap.size W w' := by
  obtain ⟨h', hh⟩ := val_ok (tableNil_runs a0 a1)
  refine calls_bool (E := ETableNil) (fun t h => by simpa [ETableNil] using h) (cok0 rfl rfl) (by kernel_rfl) hh (CRs.cons (.str _) (CRs.cons (.str _) (.nil))) ?_
  intro i cs h
  simp only [ETableNil] at h
  split at h
  · rename_i hi
    subst hi
    cases h
    exact globH_of (P := Tryz.prog) (laid := Rows.tableNilRow.laid) hX (by kernel_rfl) (List.mem_of_getElem? (i := 1) (a := ("hornbook/ins.forms", Rows.laid_hornbook_ins_forms)) rfl) formsG formsT formsTree
  · cases h
end Go.Proofs.YthfkkflogbibfaaGreatDoor.AM
