/- DeltaNil: what must come of fixed calls; whether classes are small is said, whichever way. -/
import Derived.Test.YtcocmlmligjjcaaGreatDoorB0
import Derived.Test.YtcocmlmligjjcaaGreatDoorBSmall
import Derived.Test.YtcocmlmligjjcaaGreatDoorB2
import Derived.Test.YtcocmlmligjjcaaGreatDoorS25
import Derived.Test.YtcocmlmligjjcaaGreatDoorRows
import Derived.LaidSub
namespace Go.Proofs.YtcocmlmligjjcaaGreatDoor.AM
open Go.Proofs Go.RowKit
set_option linter.unusedVariables false
set_option linter.unusedSimpArgs false
noncomputable def EK : Env := { P := Tryz.prog, C := C0, G := fun g => if g = 0 then some formsL else none, M := 10000, L := fun f s => [165, 42, 278, 103, 124, 178, 321, 199, 156, 66, 126, 219, 128, 65, 231].contains f, LC := fun _ => false, S := fun t => !Tryz.prog.stoodInHeld t, B := fun f => f == 313 }
theorem gK : Ground EK := ⟨fun t h => by simpa [EK] using h, cok0 rfl rfl, fun f h => by simp only [EK, beq_iff_eq] at h; subst h; exact backOK, by kernel_rfl⟩
theorem noGK : ∀ i cs, EK.G i = some cs → noRefs cs = true := by
  intro i cs h
  simp only [EK] at h
  split at h
  · cases h; exact noRefForms
  · cases h
theorem formsG : Tryz.prog.globalNamed "hornbook/ins.forms" = some 0 := by kernel_rfl
theorem formsT : (Tryz.prog.globals[0]?).map (·.type) = some 408 := by kernel_rfl
theorem formsTree : tree Tryz.prog 9 408 (Rows.laid_hornbook_ins_forms : DataW Unit) = some formsL := by kernel_rfl
def cbs38 : List CB := []
theorem run38 : isTrueR (acallT EK (tabB cbs38) 400 38 [] []) = true := by kernel_rfl
theorem known (h : H) : Con EK 38 [] h (.bool true) h := by
  have hcs : ∀ c, c ∈ cbs38 → c.Ok EK := by
    intro c hc
    cases hc
  exact Con.known gK noGK hcs run38 h
noncomputable def call6 (l : List tyK.I) (b : Bool) : FuncId → List AV → H → T (AV × H) := fun f args h => if f = 38 then (match args with
  | [] => .leaf (.bool true, h)
  | _ => .fail) else if f = 37 then .br (ask (args = [encL tyK l])) (.leaf (.bool b, h)) .fail else (acallF EK 400 f args h).t
noncomputable def call6q (b q : Bool) : FuncId → List AV → H → T (AV × H) := fun f args h => if f = 38 then (match args with
  | [] => .leaf (.bool true, h)
  | _ => .fail) else if f = 37 then .br q (.leaf (.bool b, h)) .fail else (acallF EK 400 f args h).t
noncomputable def X6q (b q : Bool) : SX := { E := EK, f := 6, con := fun _ => false, split := fun d => [16, 20, 23, 35, 41, 47, 53, 59].contains d, call := call6q b q }
noncomputable def X6 (l : List tyK.I) (b : Bool) : SX := { E := EK, f := 6, con := fun _ => false, split := fun d => [16, 20, 23, 35, 41, 47, 53, 59].contains d, call := call6 l b }
theorem call6_ok {l : List tyK.I} {b : Bool} (hb : ∀ h, Con E0 37 [encL tyK l] h (.bool b) h) : CallOK (X6 l b).E (X6 l b).calls := by
  intro f args h r h' hc
  have hc' : (call6 l b f args h).run = .ok (r, h') := hc
  show Con EK f args h r h'
  unfold call6 at hc'
  split at hc'
  · rename_i hf; subst hf
    split at hc'
    · cases hc'; exact known h
    · cases hc'
  · split at hc'
    · rename_i hf; subst hf
      cases hq : ask (args = [encL tyK l]) with
      | false => rw [hq] at hc'; cases hc'
      | true =>
        rw [hq] at hc'
        cases hc'
        rw [ask_of hq]
        exact Con.env (E := E0) (E' := EK) rfl rfl (hb h)
    · exact Con.of_acallF gK (R.t_ok hc')
end Go.Proofs.YtcocmlmligjjcaaGreatDoor.AM
