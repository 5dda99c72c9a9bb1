/- The symbolic machine calls: functions without loops of unknown length are gone through where they are called. -/
import Derived.Test.YthfkkflogbibfaaGreatDoorS10
namespace Go.Proofs.YthfkkflogbibfaaGreatDoor.AM
set_option linter.unusedVariables false
set_option linter.unusedSimpArgs false
set_option linter.unusedSectionVars false

/-- calls: by what is known of them; else by the function's own code. -/
def tcall (E : Env) (con split : FuncId → Nat → Bool) (C : FuncId → List AV → H → Option (T (AV × H))) : Nat → FuncId → List AV → H → T (AV × H)
  | 0, _, _, _ => .fail
  | n + 1, f, args, h => match C f args h with
    | some t => t
    | none => match E.P.funcs[f]? with
      | some fn => (match fn.body with
        | some c => (match fn.name == "runtime.NumGoroutine" with
          | true => .fail
          | false => runF { E := E, f := f, con := con f, split := split f, call := tcall E con split C n } (fun _ => none) fn c args h)
        | none => .fail)
      | none => .fail
theorem tcall_ok {E : Env} (g : Ground E) {con split : FuncId → Nat → Bool} {C : FuncId → List AV → H → Option (T (AV × H))} (hC : ∀ f args h t, C f args h = some t → ∀ r h', t.run = .ok (r, h') → Con E f args h r h') :
    ∀ n f args h r h', (tcall E con split C n f args h).run = .ok (r, h') → Con E f args h r h' := by
  intro n
  induction n with
  | zero => intro f args h r h' hr; cases hr
  | succ n ih =>
    intro f args h r h' hr
    simp only [tcall] at hr
    split at hr
    · rename_i t ht
      exact hC f args h t ht r h' hr
    · split at hr
      · rename_i fn hfn
        split at hr
        · rename_i c hb
          split at hr
          · cases hr
          · rename_i hname
            exact Con.of_run (X := { E := E, f := f, con := con f, split := split f, call := tcall E con split C n }) g (fun f args h r h' hc => ih f args h r h' hc) hfn hb hname KOK.none hr
        · cases hr
      · cases hr
end Go.Proofs.YthfkkflogbibfaaGreatDoor.AM
