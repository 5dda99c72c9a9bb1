/- VerifyNil: the machine's answer. -/
import Derived.Test.YthfkkflogbibfaaGreatDoorB0
import Derived.Test.YthfkkflogbibfaaGreatDoorB1
import Derived.Test.YthfkkflogbibfaaGreatDoorB2
import Derived.Test.YthfkkflogbibfaaGreatDoorA25
import Derived.Test.YthfkkflogbibfaaGreatDoorRows
import Derived.LaidSub
namespace Go.Proofs.YthfkkflogbibfaaGreatDoor.AM
open Go.Proofs Go.RowKit
set_option linter.unusedVariables false
set_option linter.unusedSimpArgs false
noncomputable def Ecan : Env := { P := Tryz.prog, C := C0, G := fun g => if g = 0 then some formsL else none, M := 10000, L := fun f _ => [27, 139, 231, 119, 36, 89, 288, 291].contains f, LC := fun _ => false, S := fun t => !Tryz.prog.stoodInHeld t, B := fun f => f == 262 }
def arg0 : List AV := [.lst 5 [.agg [.str ⟨#[65]⟩, .str ⟨#[79, 98, 106, 101, 99, 116]⟩, .lst 5 [.agg [.int .i64 1, .int .i64 0, .str ⟨#[]⟩, .str ⟨#[]⟩, .str ⟨#[]⟩]] .open_, .nils, .lst 5 [.agg [.str ⟨#[109]⟩, .str ⟨#[40, 41, 73]⟩, .int .i64 1, .lst 2 [.agg [.int .i64 1, .int .i64 0], .agg [.int .i64 33, .int .i64 0]] .open_, .nils]] .open_]] .open_]
theorem can0 : val (acall Ecan 500 142 arg0 []) = .ok (.bool true) := by kernel_rfl
def arg1 : List AV := [.lst 5 [.agg [.str ⟨#[65]⟩, .str ⟨#[79, 98, 106, 101, 99, 116]⟩, .lst 5 [.agg [.int .i64 1, .int .i64 0, .str ⟨#[]⟩, .str ⟨#[]⟩, .str ⟨#[]⟩]] .open_, .nils, .lst 5 [.agg [.str ⟨#[109]⟩, .str ⟨#[40, 41, 73]⟩, .int .i64 1, .lst 2 [.agg [.int .i64 22, .int .i64 0]] .open_, .nils]] .open_]] .open_]
theorem can1 : val (acall Ecan 500 142 arg1 []) = .ok (.bool true) := by kernel_rfl
def arg2 : List AV := [.lst 5 [.agg [.str ⟨#[65]⟩, .str ⟨#[79, 98, 106, 101, 99, 116]⟩, .lst 5 [.agg [.int .i64 1, .int .i64 0, .str ⟨#[]⟩, .str ⟨#[]⟩, .str ⟨#[]⟩]] .open_, .nils, .lst 5 [.agg [.str ⟨#[109]⟩, .str ⟨#[40, 41, 73]⟩, .int .i64 1, .lst 2 [.agg [.int .i64 1, .int .i64 0]] .open_, .nils]] .open_]] .open_]
theorem can2 : val (acall Ecan 500 142 arg2 []) = .ok (.bool false) := by kernel_rfl
/-- what is known by contract: whether the fixed methods can be run, too. -/
def C10 : FuncId → List AV → Option AV := fun f args => if f = 142 then (if sames (forgets args) arg0 = true then some (.bool true) else if sames (forgets args) arg1 = true then some (.bool true) else if sames (forgets args) arg2 = true then some (.bool false) else none) else C0 f args
noncomputable def E10 : Env := { Ecan with C := C10 }
theorem noRefForms : noRefs formsL = true := by kernel_rfl
theorem globsC (i : Nat) (cs : List AV) (h : (if i = 0 then some formsL else none) = some cs) : noRefs cs = true := by
  split at h
  · cases h; exact noRefForms
  · cases h
theorem memoC {a : List AV} {b : Bool} (hc : val (acall Ecan 500 142 a []) = .ok (.bool b)) (hn : noRefs a = true) (args : List AV) (hs : sames (forgets args) a = true) (h : H) (r : AV) (h' : H) (he : (R.ok (thaw h (.bool b)) : R (AV × H)) = .ok (r, h')) (A : Area) (ρ : Rho) (w : World) (vs : Array Value) (hr : HR E10.G A ρ w (view h)) (hargs : CRs (Forb A ρ (view h)) ρ w vs.toList args) :
    (∀ W, (callFunc 142 vs).run E10.P W = .ok (.enter 142 vs) W) ∧ Calls E10.P 142 vs w fun e w' => ∃ v ρ', e = .returned v ∧ Ext (Own ρ (view h)) ρ w (Own ρ' (view h')) ρ' w' ∧ HR E10.G A ρ' w' (view h') ∧ CR (Forb A ρ' (view h')) ρ' w' v r := by
  simp only [thaw] at he
  cases he
  obtain ⟨h2, hh⟩ := val_ok hc
  have ha := hargs.forgets
  rw [sames_eq' hs] at ha
  exact memo_ok (E := Ecan) (fun t h => by simpa [Ecan] using h) (cok0 rfl rfl) (fun f h => by simp only [Ecan, beq_iff_eq] at h; subst h; exact backOK) (by kernel_rfl) globsC hh hn rfl h A ρ w vs hr ha
theorem cok10 : COK E10 := by
  intro f args h r h' hc A ρ w vs hr hargs
  have hc2 : (match C10 f args with | some r => R.ok (thaw h r) | none => R.no "") = .ok (r, h') := hc
  by_cases hf : f = 142
  · subst hf
    simp only [C10, if_true] at hc2
    split at hc2
    · rename_i r0 h0
      split at h0
      · rename_i hs; cases h0; exact memoC can0 (by kernel_rfl) args hs h r h' hc2 A ρ w vs hr hargs
      · split at h0
        · rename_i hs; cases h0; exact memoC can1 (by kernel_rfl) args hs h r h' hc2 A ρ w vs hr hargs
        · split at h0
          · rename_i hs; cases h0; exact memoC can2 (by kernel_rfl) args hs h r h' hc2 A ρ w vs hr hargs
          · cases h0
    · cases hc2
  · have h0 := cok0 (E := Ecan) rfl rfl
    refine h0 f args h r h' ?_ A ρ w vs hr hargs
    have : C10 f args = C0 f args := by simp [C10, hf]
    rw [this] at hc2
    exact hc2
theorem verifyNil_runs (a0 a1 : ByteArray) : val (acall E10 500 7 [.str a0, .str a1] []) = .ok (.bool true) := by kernel_rfl
theorem verifyNil (W : World) (hX : laidMetH Tryz.prog Rows.verifyNilRow.laid W) (a0 : ByteArray) (_ : a0.size ≤ 140737488351232) (a1 : ByteArray) (_ : a1.size ≤ 140737488351232) :
    Calls Tryz.prog 7 #[.string a0, .string a1] W fun e w' => e = .returned (.bool true) ∧ Below W.heap.size W w' := by
  obtain ⟨h', hh⟩ := val_ok (verifyNil_runs a0 a1)
  refine calls_bool (E := E10) (fun t h => by simpa [E10, Ecan] using h) cok10 (fun f h => by simp only [E10, Ecan, beq_iff_eq] at h; subst h; exact backOK) (by kernel_rfl) hh (CRs.cons (.str _) (CRs.cons (.str _) .nil)) ?_
  intro i cs h
  simp only [E10, Ecan] at h
  split at h
  · rename_i hi
    subst hi
    cases h
    exact globH_of (P := Tryz.prog) (laid := Rows.verifyNilRow.laid) hX (by kernel_rfl) (List.mem_of_getElem? (i := 1) (a := ("hornbook/ins.forms", Rows.laid_hornbook_ins_forms)) rfl) formsG formsT formsTree
  · cases h
end Go.Proofs.YthfkkflogbibfaaGreatDoor.AM
