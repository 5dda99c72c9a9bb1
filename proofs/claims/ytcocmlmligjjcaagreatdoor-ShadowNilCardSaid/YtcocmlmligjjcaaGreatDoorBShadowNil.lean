/- ShadowNil: what must come of fixed calls; without a heap, or a program, there is no new one, whatever address. -/
import Derived.Test.YtcocmlmligjjcaaGreatDoorB0
import Derived.Test.YtcocmlmligjjcaaGreatDoorB1
import Derived.Test.YtcocmlmligjjcaaGreatDoorB2
import Derived.Test.YtcocmlmligjjcaaGreatDoorS25
import Derived.Test.YtcocmlmligjjcaaGreatDoorRows
import Derived.LaidSub
namespace Go.Proofs.YtcocmlmligjjcaaGreatDoor.AM
open Go.Proofs Go.RowKit
set_option linter.unusedVariables false
set_option linter.unusedSimpArgs false
noncomputable def EK : Env := { P := Tryz.prog, C := C0, G := fun g => if g = 0 then some formsL else none, M := 10000, L := fun f s => [165, 42, 278, 103, 124, 178, 321, 199, 156, 66, 126, 219, 128, 65, 231].contains f, LC := fun _ => false, S := fun t => !Tryz.prog.stoodInHeld t, B := fun f => f == 313 }
theorem gK : Ground EK := ⟨fun t h => by simpa [EK] using h, cok0 rfl rfl, fun f h => by simp only [EK, beq_iff_eq] at h; subst h; exact backOK, by kernel_rfl⟩
theorem noRefForms : noRefs formsL = true := by kernel_rfl
theorem noGK : ∀ i cs, EK.G i = some cs → noRefs cs = true := by
  intro i cs h
  simp only [EK] at h
  split at h
  · cases h; exact noRefForms
  · cases h
def cbs35 : List CB := []
theorem run35 : isTrueR (acallT EK (tabB cbs35) 400 35 [] []) = true := by kernel_rfl
theorem known (h : H) : Con EK 35 [] h (.bool true) h := by
  have hcs : ∀ c, c ∈ cbs35 → c.Ok EK := by
    intro c hc
    cases hc
  exact Con.known gK noGK hcs run35 h
/-- what is known by contract: the law's fixed calls, too. -/
def CL : FuncId → List AV → Option AV := fun f args => if f = 35 then (match args with | [] => some (.bool true) | _ => none) else C0 f args
noncomputable def EL : Env := { EK with C := CL }
theorem cokL : COK EL := by
  intro f args h r h' hc A ρ w vs hr hargs
  have hc2 : (match CL f args with | some r => R.ok (thaw h r) | none => R.no "") = .ok (r, h') := hc
  by_cases hf : f = 35
  · subst hf
    cases args with
    | cons x xs => simp [CL] at hc2
    | nil =>
      have hc' : (R.ok (thaw h (.bool true)) : R (AV × H)) = .ok (r, h') := by simpa [CL] using hc2
      simp only [thaw] at hc'
      cases hc'
      exact known h A ρ w vs hr hargs
  · have h0 := cok0 (E := EK) rfl rfl
    refine h0 f args h r h' ?_ A ρ w vs hr hargs
    have : CL f args = C0 f args := by simp [CL, hf]
    rw [this] at hc2
    exact hc2
def Good (a0 : Int) : Prop := isTrueR (acallF EL 500 5 [.int .i64 a0] []) = true
theorem shadowNil_runs (a0 : Int) : Good a0 := by
  rcases a0 with (_ | ka0) | (_ | ka0)
  · unfold Good; kernel_rfl
  · unfold Good; kernel_rfl
  · unfold Good; kernel_rfl
  · unfold Good; kernel_rfl
theorem shadowNil (W : World) (hX : laidMetH Tryz.prog Rows.shadowNilRow.laid W) (a0 : Int) (_ : (Lit.int .i64 a0).wf = true) :
    Calls Tryz.prog 5 #[.int .i64 a0] W fun e w' => e = .returned (.bool true) ∧ Below W.heap.size W w' := by
  obtain ⟨h', hh⟩ := isTrueR_ok (shadowNil_runs a0)
  rw [acallF_eq] at hh
  refine calls_bool (E := EL) (fun t h => by simpa [EL, EK] using h) cokL (fun f h => by simp only [EL, EK, beq_iff_eq] at h; subst h; exact backOK) (by kernel_rfl) hh (CRs.cons (.int _ _) .nil) ?_
  intro i cs h
  simp only [EL, EK] at h
  split at h
  · rename_i hi
    subst hi
    cases h
    exact globH_of (P := Tryz.prog) (laid := Rows.shadowNilRow.laid) hX (by kernel_rfl) (List.mem_of_getElem? (i := 1) (a := ("hornbook/ins.forms", Rows.laid_hornbook_ins_forms)) rfl) formsG formsT formsTree
  · cases h
end Go.Proofs.YtcocmlmligjjcaaGreatDoor.AM
