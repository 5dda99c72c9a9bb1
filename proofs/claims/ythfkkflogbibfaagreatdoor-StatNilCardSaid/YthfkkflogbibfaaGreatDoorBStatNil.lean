/- StatNil: the machine's answer. -/
import Derived.Test.YthfkkflogbibfaaGreatDoorB0
import Derived.Test.YthfkkflogbibfaaGreatDoorB1
import Derived.Test.YthfkkflogbibfaaGreatDoorB2
import Derived.Test.YthfkkflogbibfaaGreatDoorRows
import Derived.LaidSub
namespace Go.Proofs.YthfkkflogbibfaaGreatDoor.AM
open Go.Proofs Go.RowKit
set_option linter.unusedVariables false
noncomputable def EStatNil : Env := { P := Tryz.prog, C := C0, G := fun g => if g = 0 then some formsL else none, M := 10000, L := fun f _ => [27, 139, 231, 119, 36, 89].contains f, LC := fun _ => false, S := fun t => !Tryz.prog.stoodInHeld t, B := fun f => f == 262 }
theorem statNil_runs (a0 : ByteArray) : val (acall EStatNil 500 8 [.str a0] []) = .ok (.bool true) := by kernel_rfl
theorem statNil (W : World) (hX : laidMetH Tryz.prog Rows.statNilRow.laid W) (a0 : ByteArray) (_ : a0.size ≤ 140737488351232) : Calls Tryz.prog 8 #[.string a0] W fun e w' => e = .returned (.bool true) ∧ Below W.heap.size W w' := by
  obtain ⟨h', hh⟩ := val_ok (statNil_runs a0)
  refine calls_bool (E := EStatNil) (fun t h => by simpa [EStatNil] using h) (cok0 rfl rfl) (fun f h => by simp only [EStatNil, beq_iff_eq] at h; subst h; exact backOK) (by kernel_rfl) hh (CRs.cons (.str _) (.nil)) ?_
  intro i cs h
  simp only [EStatNil] at h
  split at h
  · rename_i hi
    subst hi
    cases h
    exact globH_of (P := Tryz.prog) (laid := Rows.statNilRow.laid) hX (by kernel_rfl) (List.mem_of_getElem? (i := 1) (a := ("hornbook/ins.forms", Rows.laid_hornbook_ins_forms)) rfl) formsG formsT formsTree
  · cases h
end Go.Proofs.YthfkkflogbibfaaGreatDoor.AM
