/- KindNil: the machine's answer, one instruction after another. -/
import Derived.Test.YthfkkflogbibfaaGreatDoorB0
import Derived.Test.YthfkkflogbibfaaGreatDoorB1
import Derived.Test.YthfkkflogbibfaaGreatDoorB2
import Derived.Test.YthfkkflogbibfaaGreatDoorA24
import Derived.Test.YthfkkflogbibfaaGreatDoorRows
import Derived.LaidSub
import Derived.ChangeArms
namespace Go.Proofs.YthfkkflogbibfaaGreatDoor.AM
open Go.Proofs Go.RowKit
set_option linter.unusedVariables false
set_option linter.unusedSimpArgs false
noncomputable def E14 : Env := { P := Tryz.prog, C := C0, G := fun g => if g = 0 then some formsL else none, M := 10000, L := fun f _ => [27, 139, 231, 119, 36, 89].contains f, LC := fun _ => false, S := fun t => !Tryz.prog.stoodInHeld t, B := fun f => f == 262 }
theorem known14 : val (acall E14 500 14 [] []) = .ok (.bool true) := by kernel_rfl
/-- what is known by contract: law09's fixed calls, too. -/
def C9 : FuncId → List AV → Option AV := fun f args => if f = 14 then (match args with | [] => some (.bool true) | _ => none) else C0 f args
noncomputable def E9 : Env := { P := Tryz.prog, C := C9, G := fun g => if g = 0 then some formsL else none, M := 10000, L := fun _ _ => false, LC := fun _ => false, S := fun t => !Tryz.prog.stoodInHeld t }
theorem noRefForms : noRefs formsL = true := by kernel_rfl
theorem globs9 (i : Nat) (cs : List AV) (h : (if i = 0 then some formsL else none) = some cs) : noRefs cs = true := by
  split at h
  · cases h; exact noRefForms
  · cases h
theorem cok9 : COK E9 := by
  intro f args h r h' hc A ρ w vs hr hargs
  by_cases hf : f = 14
  · subst hf
    cases args with
    | cons x xs => simp [E9, C9] at hc
    | nil =>
      have hc' : (R.ok (thaw h (.bool true)) : R (AV × H)) = .ok (r, h') := by simpa [E9, C9] using hc
      simp only [thaw] at hc'
      cases hc'
      obtain ⟨h2, hh⟩ := val_ok known14
      exact memo_ok (E := E14) (fun t h => by simpa [E14] using h) (cok0 rfl rfl) (fun f h => by simp only [E14, beq_iff_eq] at h; subst h; exact backOK) (by kernel_rfl) globs9 hh rfl rfl h A ρ w vs hr hargs
  · have h0 := cok0 (E := { E9 with C := C0 }) rfl rfl
    refine h0 f args h r h' ?_ A ρ w vs hr hargs
    have : E9.C f args = C0 f args := by show C9 f args = _; simp [C9, hf]
    have hc2 : (match E9.C f args with | some r => R.ok (thaw h r) | none => R.no "") = .ok (r, h') := hc
    rw [this] at hc2
    exact hc2
def Good (op a : Int) : Prop := val (acall E9 500 3 [.agg [.int .i64 op, .int .i64 a]] []) = .ok (.bool true)
theorem good_neg (m : Nat) (a : Int) : Good (.negSucc m) a := match a with
  | .ofNat 0 => by unfold Good; kernel_rfl
  | .ofNat (k + 1) => by unfold Good; kernel_rfl
  | .negSucc k => by unfold Good; kernel_rfl
theorem good_big (m : Nat) (a : Int) : Good (.ofNat (m + 46)) a := match a with
  | .ofNat 0 => by unfold Good; kernel_rfl
  | .ofNat (k + 1) => by unfold Good; kernel_rfl
  | .negSucc k => by unfold Good; kernel_rfl
theorem good_0 (a : Int) : Good (.ofNat 0) a := match a with
  | .ofNat 0 => by unfold Good; kernel_rfl
  | .ofNat (k + 1) => by unfold Good; kernel_rfl
  | .negSucc k => by unfold Good; kernel_rfl
theorem good_1 (a : Int) : Good (.ofNat 1) a := match a with
  | .ofNat 0 => by unfold Good; kernel_rfl
  | .ofNat (k + 1) => by unfold Good; kernel_rfl
  | .negSucc k => by unfold Good; kernel_rfl
theorem good_2 (a : Int) : Good (.ofNat 2) a := match a with
  | .ofNat 0 => by unfold Good; kernel_rfl
  | .ofNat (k + 1) => by unfold Good; kernel_rfl
  | .negSucc k => by unfold Good; kernel_rfl
theorem good_3 (a : Int) : Good (.ofNat 3) a := match a with
  | .ofNat 0 => by unfold Good; kernel_rfl
  | .ofNat (k + 1) => by unfold Good; kernel_rfl
  | .negSucc k => by unfold Good; kernel_rfl
theorem good_4 (a : Int) : Good (.ofNat 4) a := match a with
  | .ofNat 0 => by unfold Good; kernel_rfl
  | .ofNat (k + 1) => by unfold Good; kernel_rfl
  | .negSucc k => by unfold Good; kernel_rfl
theorem good_5 (a : Int) : Good (.ofNat 5) a := match a with
  | .ofNat 0 => by unfold Good; kernel_rfl
  | .ofNat (k + 1) => by unfold Good; kernel_rfl
  | .negSucc k => by unfold Good; kernel_rfl
theorem good_6 (a : Int) : Good (.ofNat 6) a := match a with
  | .ofNat 0 => by unfold Good; kernel_rfl
  | .ofNat (k + 1) => by unfold Good; kernel_rfl
  | .negSucc k => by unfold Good; kernel_rfl
theorem good_7 (a : Int) : Good (.ofNat 7) a := match a with
  | .ofNat 0 => by unfold Good; kernel_rfl
  | .ofNat (k + 1) => by unfold Good; kernel_rfl
  | .negSucc k => by unfold Good; kernel_rfl
theorem good_8 (a : Int) : Good (.ofNat 8) a := match a with
  | .ofNat 0 => by unfold Good; kernel_rfl
  | .ofNat (k + 1) => by unfold Good; kernel_rfl
  | .negSucc k => by unfold Good; kernel_rfl
theorem good_9 (a : Int) : Good (.ofNat 9) a := match a with
  | .ofNat 0 => by unfold Good; kernel_rfl
  | .ofNat (k + 1) => by unfold Good; kernel_rfl
  | .negSucc k => by unfold Good; kernel_rfl
theorem good_10 (a : Int) : Good (.ofNat 10) a := match a with
  | .ofNat 0 => by unfold Good; kernel_rfl
  | .ofNat (k + 1) => by unfold Good; kernel_rfl
  | .negSucc k => by unfold Good; kernel_rfl
theorem good_11 (a : Int) : Good (.ofNat 11) a := match a with
  | .ofNat 0 => by unfold Good; kernel_rfl
  | .ofNat (k + 1) => by unfold Good; kernel_rfl
  | .negSucc k => by unfold Good; kernel_rfl
theorem good_12 (a : Int) : Good (.ofNat 12) a := match a with
  | .ofNat 0 => by unfold Good; kernel_rfl
  | .ofNat (k + 1) => by unfold Good; kernel_rfl
  | .negSucc k => by unfold Good; kernel_rfl
theorem good_13 (a : Int) : Good (.ofNat 13) a := match a with
  | .ofNat 0 => by unfold Good; kernel_rfl
  | .ofNat (k + 1) => by unfold Good; kernel_rfl
  | .negSucc k => by unfold Good; kernel_rfl
theorem good_14 (a : Int) : Good (.ofNat 14) a := match a with
  | .ofNat 0 => by unfold Good; kernel_rfl
  | .ofNat (k + 1) => by unfold Good; kernel_rfl
  | .negSucc k => by unfold Good; kernel_rfl
theorem good_15 (a : Int) : Good (.ofNat 15) a := match a with
  | .ofNat 0 => by unfold Good; kernel_rfl
  | .ofNat (k + 1) => by unfold Good; kernel_rfl
  | .negSucc k => by unfold Good; kernel_rfl
theorem good_16 (a : Int) : Good (.ofNat 16) a := match a with
  | .ofNat 0 => by unfold Good; kernel_rfl
  | .ofNat (k + 1) => by unfold Good; kernel_rfl
  | .negSucc k => by unfold Good; kernel_rfl
theorem good_17 (a : Int) : Good (.ofNat 17) a := match a with
  | .ofNat 0 => by unfold Good; kernel_rfl
  | .ofNat (k + 1) => by unfold Good; kernel_rfl
  | .negSucc k => by unfold Good; kernel_rfl
theorem good_18 (a : Int) : Good (.ofNat 18) a := match a with
  | .ofNat 0 => by unfold Good; kernel_rfl
  | .ofNat (k + 1) => by unfold Good; kernel_rfl
  | .negSucc k => by unfold Good; kernel_rfl
theorem good_19 (a : Int) : Good (.ofNat 19) a := match a with
  | .ofNat 0 => by unfold Good; kernel_rfl
  | .ofNat (k + 1) => by unfold Good; kernel_rfl
  | .negSucc k => by unfold Good; kernel_rfl
theorem good_20 (a : Int) : Good (.ofNat 20) a := match a with
  | .ofNat 0 => by unfold Good; kernel_rfl
  | .ofNat (k + 1) => by unfold Good; kernel_rfl
  | .negSucc k => by unfold Good; kernel_rfl
theorem good_21 (a : Int) : Good (.ofNat 21) a := match a with
  | .ofNat 0 => by unfold Good; kernel_rfl
  | .ofNat (k + 1) => by unfold Good; kernel_rfl
  | .negSucc k => by unfold Good; kernel_rfl
theorem good_22 (a : Int) : Good (.ofNat 22) a := match a with
  | .ofNat 0 => by unfold Good; kernel_rfl
  | .ofNat (k + 1) => by unfold Good; kernel_rfl
  | .negSucc k => by unfold Good; kernel_rfl
theorem good_23 (a : Int) : Good (.ofNat 23) a := match a with
  | .ofNat 0 => by unfold Good; kernel_rfl
  | .ofNat (k + 1) => by unfold Good; kernel_rfl
  | .negSucc k => by unfold Good; kernel_rfl
theorem good_24 (a : Int) : Good (.ofNat 24) a := match a with
  | .ofNat 0 => by unfold Good; kernel_rfl
  | .ofNat (k + 1) => by unfold Good; kernel_rfl
  | .negSucc k => by unfold Good; kernel_rfl
theorem good_25 (a : Int) : Good (.ofNat 25) a := match a with
  | .ofNat 0 => by unfold Good; kernel_rfl
  | .ofNat (k + 1) => by unfold Good; kernel_rfl
  | .negSucc k => by unfold Good; kernel_rfl
theorem good_26 (a : Int) : Good (.ofNat 26) a := match a with
  | .ofNat 0 => by unfold Good; kernel_rfl
  | .ofNat (k + 1) => by unfold Good; kernel_rfl
  | .negSucc k => by unfold Good; kernel_rfl
theorem good_27 (a : Int) : Good (.ofNat 27) a := match a with
  | .ofNat 0 => by unfold Good; kernel_rfl
  | .ofNat (k + 1) => by unfold Good; kernel_rfl
  | .negSucc k => by unfold Good; kernel_rfl
theorem good_28 (a : Int) : Good (.ofNat 28) a := match a with
  | .ofNat 0 => by unfold Good; kernel_rfl
  | .ofNat (k + 1) => by unfold Good; kernel_rfl
  | .negSucc k => by unfold Good; kernel_rfl
theorem good_29 (a : Int) : Good (.ofNat 29) a := match a with
  | .ofNat 0 => by unfold Good; kernel_rfl
  | .ofNat (k + 1) => by unfold Good; kernel_rfl
  | .negSucc k => by unfold Good; kernel_rfl
theorem good_30 (a : Int) : Good (.ofNat 30) a := match a with
  | .ofNat 0 => by unfold Good; kernel_rfl
  | .ofNat (k + 1) => by unfold Good; kernel_rfl
  | .negSucc k => by unfold Good; kernel_rfl
theorem good_31 (a : Int) : Good (.ofNat 31) a := match a with
  | .ofNat 0 => by unfold Good; kernel_rfl
  | .ofNat (k + 1) => by unfold Good; kernel_rfl
  | .negSucc k => by unfold Good; kernel_rfl
theorem good_32 (a : Int) : Good (.ofNat 32) a := match a with
  | .ofNat 0 => by unfold Good; kernel_rfl
  | .ofNat (k + 1) => by unfold Good; kernel_rfl
  | .negSucc k => by unfold Good; kernel_rfl
theorem good_33 (a : Int) : Good (.ofNat 33) a := match a with
  | .ofNat 0 => by unfold Good; kernel_rfl
  | .ofNat (k + 1) => by unfold Good; kernel_rfl
  | .negSucc k => by unfold Good; kernel_rfl
theorem good_34 (a : Int) : Good (.ofNat 34) a := match a with
  | .ofNat 0 => by unfold Good; kernel_rfl
  | .ofNat (k + 1) => by unfold Good; kernel_rfl
  | .negSucc k => by unfold Good; kernel_rfl
theorem good_35 (a : Int) : Good (.ofNat 35) a := match a with
  | .ofNat 0 => by unfold Good; kernel_rfl
  | .ofNat (k + 1) => by unfold Good; kernel_rfl
  | .negSucc k => by unfold Good; kernel_rfl
theorem good_36 (a : Int) : Good (.ofNat 36) a := match a with
  | .ofNat 0 => by unfold Good; kernel_rfl
  | .ofNat (k + 1) => by unfold Good; kernel_rfl
  | .negSucc k => by unfold Good; kernel_rfl
theorem good_37 (a : Int) : Good (.ofNat 37) a := match a with
  | .ofNat 0 => by unfold Good; kernel_rfl
  | .ofNat (k + 1) => by unfold Good; kernel_rfl
  | .negSucc k => by unfold Good; kernel_rfl
theorem good_38 (a : Int) : Good (.ofNat 38) a := match a with
  | .ofNat 0 => by unfold Good; kernel_rfl
  | .ofNat (k + 1) => by unfold Good; kernel_rfl
  | .negSucc k => by unfold Good; kernel_rfl
theorem good_39 (a : Int) : Good (.ofNat 39) a := match a with
  | .ofNat 0 => by unfold Good; kernel_rfl
  | .ofNat (k + 1) => by unfold Good; kernel_rfl
  | .negSucc k => by unfold Good; kernel_rfl
theorem good_40 (a : Int) : Good (.ofNat 40) a := match a with
  | .ofNat 0 => by unfold Good; kernel_rfl
  | .ofNat (k + 1) => by unfold Good; kernel_rfl
  | .negSucc k => by unfold Good; kernel_rfl
theorem good_41 (a : Int) : Good (.ofNat 41) a := match a with
  | .ofNat 0 => by unfold Good; kernel_rfl
  | .ofNat (k + 1) => by unfold Good; kernel_rfl
  | .negSucc k => by unfold Good; kernel_rfl
theorem good_42 (a : Int) : Good (.ofNat 42) a := match a with
  | .ofNat 0 => by unfold Good; kernel_rfl
  | .ofNat (k + 1) => by unfold Good; kernel_rfl
  | .negSucc k => by unfold Good; kernel_rfl
theorem good_43 (a : Int) : Good (.ofNat 43) a := match a with
  | .ofNat 0 => by unfold Good; kernel_rfl
  | .ofNat (k + 1) => by unfold Good; kernel_rfl
  | .negSucc k => by unfold Good; kernel_rfl
theorem good_44 (a : Int) : Good (.ofNat 44) a := match a with
  | .ofNat 0 => by unfold Good; kernel_rfl
  | .ofNat (k + 1) => by unfold Good; kernel_rfl
  | .negSucc k => by unfold Good; kernel_rfl
theorem good_45 (a : Int) : Good (.ofNat 45) a := match a with
  | .ofNat 0 => by unfold Good; kernel_rfl
  | .ofNat (k + 1) => by unfold Good; kernel_rfl
  | .negSucc k => by unfold Good; kernel_rfl
set_option maxRecDepth 100000 in
theorem good_all (op a : Int) : Good op a := match op with
  | .negSucc m => good_neg m a
  | .ofNat 0 => good_0 a
  | .ofNat 1 => good_1 a
  | .ofNat 2 => good_2 a
  | .ofNat 3 => good_3 a
  | .ofNat 4 => good_4 a
  | .ofNat 5 => good_5 a
  | .ofNat 6 => good_6 a
  | .ofNat 7 => good_7 a
  | .ofNat 8 => good_8 a
  | .ofNat 9 => good_9 a
  | .ofNat 10 => good_10 a
  | .ofNat 11 => good_11 a
  | .ofNat 12 => good_12 a
  | .ofNat 13 => good_13 a
  | .ofNat 14 => good_14 a
  | .ofNat 15 => good_15 a
  | .ofNat 16 => good_16 a
  | .ofNat 17 => good_17 a
  | .ofNat 18 => good_18 a
  | .ofNat 19 => good_19 a
  | .ofNat 20 => good_20 a
  | .ofNat 21 => good_21 a
  | .ofNat 22 => good_22 a
  | .ofNat 23 => good_23 a
  | .ofNat 24 => good_24 a
  | .ofNat 25 => good_25 a
  | .ofNat 26 => good_26 a
  | .ofNat 27 => good_27 a
  | .ofNat 28 => good_28 a
  | .ofNat 29 => good_29 a
  | .ofNat 30 => good_30 a
  | .ofNat 31 => good_31 a
  | .ofNat 32 => good_32 a
  | .ofNat 33 => good_33 a
  | .ofNat 34 => good_34 a
  | .ofNat 35 => good_35 a
  | .ofNat 36 => good_36 a
  | .ofNat 37 => good_37 a
  | .ofNat 38 => good_38 a
  | .ofNat 39 => good_39 a
  | .ofNat 40 => good_40 a
  | .ofNat 41 => good_41 a
  | .ofNat 42 => good_42 a
  | .ofNat 43 => good_43 a
  | .ofNat 44 => good_44 a
  | .ofNat 45 => good_45 a
  | .ofNat (m + 46) => good_big m a
theorem cells3 : Tryz.prog.cellsOf 3 = 1 := by kernel_rfl
set_option maxRecDepth 100000 in
theorem open_ins {H : Type} {enc : TypeId × Value → H} {W : World} {b base : Nat} {sp : Nat → Bool} {held : Bool} {r : Reach} {v : Value} {d : DataW H} {ps : List MemPlace} (hv : Value.okWide Tryz.prog W r b 23 v) (h : DataW.Trod enc Tryz.prog W base sp held 23 v d ps) :
    ∃ x y, v = .agg #[.int .i64 x, .int .i64 y] := by
  unfold Value.okWide at hv
  rw [Tryz.underlying23] at hv
  obtain ⟨cs, rfl, _, _⟩ := hv
  obtain ⟨fuel, hf⟩ := h
  obtain ⟨xs, n, rfl, _, hlen, hxl, hx⟩ := DataW.trod_struct Tryz.underlying23 hf
  have h0 := hx 0 _ rfl
  have h1 := hx 1 _ rfl
  have hl2 : cs.toList.length = 2 := hlen.trans (by kernel_rfl)
  obtain ⟨l⟩ := cs
  match l, hl2 with
  | [c0, c1], _ =>
    match xs, hxl with
    | [x0, x1], _ =>
      simp only [Value.cells, List.getElem?_cons_zero, List.getElem?_cons_succ] at h0 h1
      obtain ⟨m0, e0, _⟩ := DataW.trod_int Tryz.underlying3 h0
      obtain ⟨m1, e1, _⟩ := DataW.trod_int Tryz.underlying3 h1
      have e0 : (([c0, c1] : List Value).drop 0).take (Tryz.prog.cellsOf 3) = [Value.int .i64 m0] := e0
      have e1 : (([c0, c1] : List Value).drop 1).take (Tryz.prog.cellsOf 3) = [Value.int .i64 m1] := e1
      rw [cells3] at e0 e1
      simp at e0 e1
      exact ⟨m0, m1, by rw [e0, e1]⟩
set_option maxRecDepth 100000 in
theorem kindNil {H : Type} {enc : TypeId × Value → H} {b : Nat} {d : DataW H} {ps : List MemPlace} (W : World) (hX : laidMetH Tryz.prog Rows.kindNilRow.laid W) (v : Value) (hv : Value.okWide Tryz.prog W .any b 23 v) (h : DataW.Trod enc Tryz.prog W 0 (fun _ => true) true 23 v d ps) :
    Calls Tryz.prog 3 #[v] W fun e w' => e = .returned (.bool true) ∧ Below W.heap.size W w' := by
  obtain ⟨x, y, rfl⟩ := open_ins hv h
  obtain ⟨h', hh⟩ := val_ok (good_all x y)
  refine calls_bool (E := E9) (fun t h => by simpa [E9] using h) cok9 (bok_none fun _ => rfl) (by kernel_rfl) hh (CRs.cons (CR.agg_of (.cons (.int _ _) (.cons (.int _ _) .nil))) .nil) ?_
  intro i cs h
  simp only [E9] at h
  split at h
  · rename_i hi
    subst hi
    cases h
    exact globH_of (P := Tryz.prog) (laid := Rows.kindNilRow.laid) hX (by kernel_rfl) (List.mem_of_getElem? (i := 1) (a := ("hornbook/ins.forms", Rows.laid_hornbook_ins_forms)) rfl) formsG formsT formsTree
  · cases h
end Go.Proofs.YthfkkflogbibfaaGreatDoor.AM
