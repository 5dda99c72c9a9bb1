/- KindStarts: how a method begins is what the document says, whatever class, signature and number of locals: both by the symbolic machine's trees, loops by induction; what must come of fixed calls is reckoned. -/
import Derived.Test.YtcocmlmligjjcaaGreatDoorB0
import Derived.Test.YtcocmlmligjjcaaGreatDoorBLaw
import Derived.Test.YtcocmlmligjjcaaGreatDoorB2
import Derived.Test.YtcocmlmligjjcaaGreatDoorS26
import Derived.Test.YtcocmlmligjjcaaGreatDoorRows
import Derived.LaidSub
namespace Go.Proofs.YtcocmlmligjjcaaGreatDoor.AM
open Go.Proofs Go.RowKit
set_option linter.unusedVariables false
set_option linter.unusedSimpArgs false
noncomputable def EK : Env := { P := Tryz.prog, C := C0, G := fun g => if g = 0 then some formsL else none, M := 10000, L := fun f s => [165, 42, 278, 103, 124, 178, 321, 199, 156, 66, 126, 219, 128, 65, 231].contains f, LC := fun _ => false, S := fun t => !Tryz.prog.stoodInHeld t, B := fun f => f == 313 }
theorem gK : Ground EK := ⟨fun t h => by simpa [EK] using h, cok0 rfl rfl, fun f h => by simp only [EK, beq_iff_eq] at h; subst h; exact backOK, by kernel_rfl⟩
theorem noGK : ∀ i cs, EK.G i = some cs → noRefs cs = true := by
  intro i cs h
  simp only [EK] at h
  split at h
  · cases h; exact noRefForms
  · cases h
theorem formsG : Tryz.prog.globalNamed "hornbook/ins.forms" = some 0 := by kernel_rfl
theorem formsT : (Tryz.prog.globals[0]?).map (·.type) = some 408 := by kernel_rfl
theorem formsTree : tree Tryz.prog 9 408 (Rows.laid_hornbook_ins_forms : DataW Unit) = some formsL := by kernel_rfl
def cbs46 : List CB := []
theorem run46 : isTrueR (acallT EK (tabB cbs46) 400 46 [] []) = true := by kernel_rfl
theorem known (h : H) : Con EK 46 [] h (.bool true) h := by
  have hcs : ∀ c, c ∈ cbs46 → c.Ok EK := by
    intro c hc
    cases hc
  exact Con.known gK noGK hcs run46 h
theorem kindStarts (W : World) (hX : laidMetH Tryz.prog Rows.kindStartsRow.laid W) (a0 : ByteArray) (h0 : a0.size ≤ 140737488351232) (a1 : ByteArray) (h1 : a1.size ≤ 140737488351232) (a2 : Int) (_ : (Lit.int .i64 a2).wf = true) :
    Calls Tryz.prog 7 #[.string a0, .string a1, .int .i64 a2] W fun e w' => e = .returned (.bool true) ∧ Below W.heap.size W w' := by
  obtain ⟨m, hc⟩ := con7 a0 a1 a2 h0 h1 (fun h => Con.env (E := EK) (E' := E0) rfl rfl (known h))
  refine Con.bool (E := E0) hc (vs := #[.string a0, .string a1, .int .i64 a2]) (.cons (.str _) (.cons (.str _) (.cons (.int _ _) .nil))) ?_
  intro i cs h
  simp only [E0] at h
  split at h
  · rename_i hi
    subst hi
    cases h
    exact globH_of (P := Tryz.prog) (laid := Rows.kindStartsRow.laid) hX (by kernel_rfl) (List.mem_of_getElem? (i := 1) (a := ("hornbook/ins.forms", Rows.laid_hornbook_ins_forms)) rfl) formsG formsT formsTree
  · cases h
end Go.Proofs.YtcocmlmligjjcaaGreatDoor.AM
