/- The abstract machine: operations that look at no memory are run by the model as the machine runs them. -/
import Derived.Test.YthfkkflogbibfaaGreatDoorA2
import Derived.Laws.Tables
import Derived.Laws.StructEq
import Derived.Great.BuildSlice
namespace Go.Proofs.YthfkkflogbibfaaGreatDoor.AM
set_option linter.unusedSectionVars false
set_option linter.unusedVariables false
set_option linter.unusedSimpArgs false

theorem R.bind_ok {α β : Type} {x : R α} {f : α → R β} {b : β} (h : x.bind f = .ok b) : ∃ a, x = .ok a ∧ f a = .ok b := by
  cases x with
  | ok a => exact ⟨a, rfl, h⟩
  | no s => cases h
theorem lift_ok {α : Type} {s : String} {o : Option α} {a : α} (h : lift s o = .ok a) : o = some a := by
  cases o with
  | none => cases h
  | some b => simp [lift] at h; rw [h]

theorem pureRun_run {α : Type} {P : Program} {s : Sem α} {a : α} (h : pureRun P s = some a) (w : World) : s.run P w = .ok a w := by
  induction s with
  | pure b => simp [pureRun] at h; subst h; rfl
  | program k ih => exact ih P h
  | _ => simp [pureRun] at h

section
variable {F : Area} {ρ : Rho} {w : World}

theorem leafOf_cr {v : Value} {y : AV} (h : leafOf v = some y) : CR F ρ w v y := by
  unfold leafOf at h
  split at h <;> cases h <;> constructor
theorem leavesOf_cr : ∀ {vs : List Value} {ys : List AV}, leavesOf vs = some ys → CRs F ρ w vs ys
  | [], ys, h => by cases h; exact .nil
  | v :: vs, ys, h => by
    simp only [leavesOf] at h
    cases hv : leafOf v with
    | none => simp [hv] at h
    | some x =>
      cases hs : leavesOf vs with
      | none => simp [hv, hs] at h
      | some xs => simp [hv, hs] at h; subst h; exact .cons (leafOf_cr hv) (leavesOf_cr hs)
theorem ofV_cr {v : Value} {y : AV} (h : ofV v = some y) : CR F ρ w v y := by
  unfold ofV at h
  split at h
  · rename_i cs
    cases hs : leavesOf cs.toList with
    | none => simp [hs] at h
    | some xs => simp [hs] at h; subst h; exact .agg_of (leavesOf_cr hs)
  · rename_i cs
    cases hs : leavesOf cs.toList with
    | none => simp [hs] at h
    | some xs => simp [hs] at h; subst h; exact .tup_of (leavesOf_cr hs)
  · exact leafOf_cr h
theorem toV_eq {v x : Value} {y : AV} (h : y.toV = some x) (hc : CR F ρ w v y) : v = x := by
  cases hc <;> simp [AV.toV] at h <;> exact h
theorem toVs_eq : ∀ {vs xs : List Value} {ys : List AV}, toVs ys = some xs → CRs F ρ w vs ys → vs = xs
  | vs, xs, [], h, hc => by cases h; exact List.eq_nil_of_length_eq_zero hc.1
  | vs, xs, y :: ys, h, hc => by
    cases vs with
    | nil => have := hc.1; simp at this
    | cons v vs =>
      simp only [toVs] at h
      cases hv : y.toV with
      | none => simp [hv] at h
      | some x =>
        cases hs : toVs ys with
        | none => simp [hv, hs] at h
        | some us => simp [hv, hs] at h; subst h; rw [toV_eq hv hc.head, toVs_eq hs hc.tail]
theorem intA_eq {v : Value} {y : AV} {n : Int} (h : intA y = .ok n) (hc : CR F ρ w v y) : ∃ k, v = .int k n := by
  cases hc <;> simp [intA] at h
  subst h; exact ⟨_, rfl⟩

/-- the slots. -/
def TR (F : Area) (ρ : Rho) (w : World) (v : Value) (y : AV) : Prop := (∃ sz l, y = .fsl sz l) ∨ CR F ρ w v y
theorem TR.mono {F F' : Area} {ρ ρ' : Rho} {w w' : World} (hρ : ∀ b p, ρ b = some p → ρ' b = some p) (hw : Keeps F w F' w') {v : Value} {y : AV} (h : TR F ρ w v y) : TR F' ρ' w' v y := h.imp (fun h => h) fun h => h.mono hρ hw
theorem TR.ext {A : Area} {ρ ρ' : Rho} {g g' : View} {w w' : World} (h : Ext (Own ρ g) ρ w (Own ρ' g') ρ' w') {v : Value} {y : AV} (hc : TR (Forb A ρ g) ρ w v y) : TR (Forb A ρ' g') ρ' w' v y := hc.imp (fun h => h) fun hc => hc.ext h
def FRel (F : Area) (ρ : Rho) (w : World) (tmps : Array Value) (τ : Fr) : Prop := ∀ i, TR F ρ w (tmps.getD i Go.undef) (τ i)
def Glob (E : Env) (F : Area) (ρ : Rho) (w : World) : Prop := ∀ i cs, E.G i = some cs → CR F ρ w (.pointer (some ⟨i, 0, none⟩)) (.fp cs 0)

variable {E : Env} {a : Act} {τ : Fr}
theorem clo_nil {f : Nat} : CR F ρ w (.func (.func f) #[] #[]) (.clo f [] []) :=
  .clo rfl rfl (fun _ => Go.undef) (fun _ => Go.undef) (fun j y h => by simp at h) (fun j y h => by simp at h) (fun j y h => by simp at h) (fun j y h => by simp at h)
theorem ev_cr (hf : FRel F ρ w a.tmps τ) (hg : Glob E F ρ w) {x : Operand} {y : AV} (h : ev E τ x = .ok y) : CR F ρ w (a.eval x) y := by
  cases x with
  | tmp t =>
    simp only [ev] at h
    split at h
    · cases h
    · rename_i hne
      cases h
      exact (hf t).resolve_left fun ⟨sz, l, e⟩ => hne _ _ e
  | const v => exact ofV_cr (lift_ok h)
  | global g =>
    have := lift_ok h
    cases hG : E.G g with
    | none => simp [hG] at this
    | some cs => simp [hG] at this; subst this; exact hg g cs hG
  | func f => simp only [ev, R.ok.injEq] at h; subst h; exact clo_nil
theorem evs_cr (hf : FRel F ρ w a.tmps τ) (hg : Glob E F ρ w) : ∀ {xs : List Operand} {ys : List AV}, evs E τ xs = .ok ys → CRs F ρ w (xs.map a.eval) ys
  | [], ys, h => by cases h; exact .nil
  | x :: xs, ys, h => by
    obtain ⟨v, hv, h⟩ := R.bind_ok h
    obtain ⟨vs, hvs, h⟩ := R.bind_ok h
    cases h
    exact .cons (ev_cr hf hg hv) (evs_cr hf hg hvs)
def CRo (F : Area) (ρ : Rho) (w : World) : Option Value → Option AV → Prop
  | none, none => True
  | some v, some y => CR F ρ w v y
  | _, _ => False
theorem evo_cr (hf : FRel F ρ w a.tmps τ) (hg : Glob E F ρ w) {x : Option Operand} {y : Option AV} (h : evo E τ x = .ok y) : CRo F ρ w (x.map a.eval) y := by
  cases x with
  | none => cases h; trivial
  | some x => obtain ⟨v, hv, h⟩ := R.bind_ok h; cases h; exact ev_cr hf hg hv

/-! ## types -/
theorem info_ok {P : Program} {t : TypeId} {i : TypeInfo} (h : info P t = .ok i) : P.info? t = some i := lift_ok h
theorem under_ok {P : Program} {t : TypeId} {d : TypeDesc} (h : under P t = .ok d) : P.underlying t = some d := lift_ok h
theorem run_under {P : Program} {t : TypeId} {d : TypeDesc} (h : under P t = .ok d) (w : World) : (underlying t).run P w = .ok d w := run_underlying (under_ok h) w
theorem size_info {P : Program} {t : TypeId} {n : Nat} (h : size P t = .ok n) : ∃ i, P.info? t = some i ∧ i.size = n := by
  obtain ⟨i, hi, h⟩ := R.bind_ok h; cases h; exact ⟨i, info_ok hi, rfl⟩
theorem run_size {P : Program} {t : TypeId} {n : Nat} (h : size P t = .ok n) (w : World) : (sizeOf t).run P w = .ok n w := by
  obtain ⟨i, hi, rfl⟩ := size_info h; simp [sizeOf, typeInfo, hi]
theorem run_info {P : Program} {t : TypeId} {i : TypeInfo} (h : info P t = .ok i) (w : World) : (typeInfo t).run P w = .ok i w := by simp [typeInfo, info_ok h]
theorem zero_info {P : Program} {t : TypeId} {y : AV} (h : zero P t = .ok y) : ∃ i z, P.info? t = some i ∧ i.zero = some z ∧ ofV z = some y := by
  obtain ⟨i, hi, h⟩ := R.bind_ok h
  have := lift_ok h
  cases hz : i.zero with
  | none => simp [hz] at this
  | some z => exact ⟨i, z, info_ok hi, hz, by simpa [hz] using this⟩
theorem run_zero {P : Program} {t : TypeId} {y : AV} (h : zero P t = .ok y) (w : World) : ∃ z, (zeroValue t).run P w = .ok z w ∧ ofV z = some y := by
  obtain ⟨i, z, hi, hz, ho⟩ := zero_info h; exact ⟨z, by simp [zeroValue, typeInfo, hi, hz], ho⟩
theorem run_isAgg {P : Program} {t : TypeId} {b : Bool} (h : aggT P t = .ok b) (w : World) : (isAgg t).run P w = .ok b w := by
  obtain ⟨d, hd, h⟩ := R.bind_ok h
  unfold isAgg
  rw [Sem.run_bind, run_under hd]
  cases d <;> simp at h ⊢ <;> exact h

theorem partA_cr {P : Program} {t : TypeId} {cs : List AV} {off : Nat} {y : AV} (h : partA P t cs off = .ok y) {vs : Array Value} (hc : CRs F ρ w vs.toList cs) :
    ∃ v, (part t vs off).run P w = .ok v w ∧ CR F ρ w v y := by
  obtain ⟨b, hb, h⟩ := R.bind_ok h
  unfold part
  rw [Sem.run_bind, run_isAgg hb]
  cases b with
  | true =>
    simp only [if_true] at h
    obtain ⟨s, hs, h⟩ := R.bind_ok h
    split at h <;> cases h
    refine ⟨.agg (vs.extract off (off + s)), by simp [run_size hs], .agg_of ?_⟩
    rw [Array.toList_extract, List.extract_eq_take_drop]
    have := (hc.drop off).take s
    simpa [Nat.add_sub_cancel_left] using this
  | false =>
    simp only [Bool.false_eq_true, if_false] at h
    obtain ⟨v, hv, hcr⟩ := hc.get (lift_ok h)
    rw [Array.getElem?_toList] at hv
    exact ⟨v, by simp [hv], hcr⟩
end
end Go.Proofs.YthfkkflogbibfaaGreatDoor.AM
