/- The abstract machine: operations that look at no memory are run by the model as the machine runs them (2). -/
import Derived.Test.YthfkkflogbibfaaGreatDoorA3
namespace Go.Proofs.YthfkkflogbibfaaGreatDoor.AM
set_option linter.unusedSectionVars false
set_option linter.unusedVariables false
set_option linter.unusedSimpArgs false

section
variable {F : Area} {ρ : Rho} {w : World}

/-! ## equality -/
def Smet (P : Program) (S : TypeId → Bool) : Prop := ∀ t, S t = true → P.stoodInHeld t = false

theorem eqTF {P : Program} {S : TypeId → Bool} (hS : Smet P S) : ∀ n,
    (∀ t x y b, eqT P S n t x y = some b → ∀ D, n ≤ D → ∀ (F : Area) (ρ : Rho) (w : World) u v, CR F ρ w u x → CR F ρ w v y → (Op.equalIn D t u v).run P w = .ok b w) ∧
    (∀ fs xs ys b, eqF P S n fs xs ys = some b → ∀ D, n ≤ D → ∀ (F : Area) (ρ : Rho) (w : World) (us vs : Array Value), CRs F ρ w us.toList xs → CRs F ρ w vs.toList ys → (Op.eqFields D us vs fs).run P w = .ok b w) := by
  intro n
  induction n with
  | zero => exact ⟨fun t x y b h => by simp [eqT] at h, fun fs xs ys b h => by simp [eqF] at h⟩
  | succ n ih =>
    refine ⟨fun t x y b h D hD F ρ w u v hu hv => ?_, fun fs xs ys b h D hD F ρ w us vs hus hvs => ?_⟩
    · obtain ⟨D, rfl⟩ : ∃ d, D = d + 1 := ⟨D - 1, by omega⟩
      unfold eqT at h
      split at h
      · rename_i hd
        obtain rfl : u = _ := toV_eq (by rfl) hu
        obtain rfl : v = _ := toV_eq (by rfl) hv
        cases h
        exact run_equalIn_bool' w D t _ _ hd
      · rename_i hd
        obtain rfl : u = _ := toV_eq (by rfl) hu
        obtain rfl : v = _ := toV_eq (by rfl) hv
        split at h <;> cases h
        rename_i hk
        simp [Op.equalIn, run_underlying hd, hk]
      · rename_i hd
        obtain rfl : u = _ := toV_eq (by rfl) hu
        obtain rfl : v = _ := toV_eq (by rfl) hv
        cases h
        simp [Op.equalIn, run_underlying hd]
      · rename_i fs xs ys hd
        obtain ⟨us, rfl, hus⟩ := hu.agg_inv
        obtain ⟨vs, rfl, hvs⟩ := hv.agg_inv
        split at h
        · rename_i hs
          have hfo : P.fieldsOf t = fs := by simp [Program.fieldsOf, hd]
          rw [run_equalIn_struct w D t us vs (by rw [hfo]; exact hd) (hS t hs), hfo]
          exact ih.2 _ _ _ _ h D (by omega) F ρ w us vs hus hvs
        · cases h
      · cases h
    · cases fs with
      | nil => simp [eqF] at h; subst h; simp [Op.eqFields]
      | cons f fs =>
        unfold eqF at h
        split at h
        · cases h
        · rename_i hname
          have hne : f.name ≠ "_" := by simpa using hname
          split at h
          · rename_i a b' ha hb
            split at h
            · rename_i p q hp hq
              cases h
              obtain ⟨ua, hua, hca⟩ := partA_cr ha hus
              obtain ⟨vb, hvb, hcb⟩ := partA_cr hb hvs
              have h1 := ih.1 _ _ _ _ hp D (by omega) F ρ w ua vb hca hcb
              have h2 := ih.2 _ _ _ _ hq D (by omega) F ρ w us vs hus hvs
              simp only [Op.eqFields, ne_eq, hne, not_false_eq_true, if_true, Sem.run_bind, hua, Result.andThen_ok, hvb, h1, Sem.run_ite, h2, Sem.run_pure]
              cases p <;> simp
            · cases h
          · cases h

theorem eqT_run {P : Program} {S : TypeId → Bool} (hS : Smet P S) {t : TypeId} {x y : AV} {b : Bool} (h : eqT P S 99 t x y = some b) {u v : Value} (hu : CR F ρ w u x) (hv : CR F ρ w v y) :
    (Op.equal t u v).run P w = .ok b w := (eqTF hS 99).1 t x y b h 10000 (by omega) F ρ w u v hu hv

theorem guard_plain {P : Program} {u v : Value} (h : ∀ cs, u ≠ .agg cs) (h' : u ≠ .nilIface) (op : BinOp) (t : TypeId) (ox oy : Operand) (w : World) : (eqGuard op t ox oy u v).run P w = .ok () w := by
  have : eqGuard op t ox oy u v = (if (!(match op with | .eql | .neq => true | _ => false)) = true then pure () else pure () : Sem Unit) := by
    unfold eqGuard
    cases u <;> first | rfl | exact absurd rfl h' | exact absurd rfl (h _)
  rw [this]; simp

theorem eqA_run {P : Program} {S : TypeId → Bool} (hS : Smet P S) {t : TypeId} {x y : AV} {b : Bool} (h : eqA P S t x y = .ok b) {u v : Value} (hu : CR F ρ w u x) (hv : CR F ρ w v y) (op : BinOp) (ox oy : Operand) :
    (Op.equal t u v).run P w = .ok b w ∧ (eqGuard op t ox oy u v).run P w = .ok () w := by
  obtain ⟨d, hd, h⟩ := R.bind_ok h
  have hd' := under_ok hd
  obtain ⟨D, hstep⟩ : ∃ D, Op.equal t u v = Op.equalIn (D + 1) t u v := ⟨9999, rfl⟩
  split at h
  case h_15 e b0 off b1 off' hd0 =>
    obtain ⟨s, hs, h2⟩ := R.bind_ok h
    split at h2
    · rename_i hc
      obtain ⟨rfl, hs0⟩ := hc
      cases h2
      cases hu with
      | ptr h1 =>
        cases hv with
        | ptr h2 =>
          rw [h1] at h2
          cases h2
          refine ⟨?_, guard_plain (by intro cs h; cases h) (by intro h; cases h) _ _ _ _ _⟩
          rw [hstep]
          simp [Op.equalIn, run_underlying hd', run_size hs, hs0, sameAddr]
          rw [Bool.eq_iff_iff]; simp
    · cases h2
  case h_20 xs ys =>
    split at h
    · cases h
    · rename_i hgd
      refine ⟨eqT_run hS (lift_ok h) hu hv, ?_⟩
      obtain ⟨us, rfl, _⟩ := hu.agg_inv
      obtain ⟨vs, rfl, _⟩ := hv.agg_inv
      have hgd' : P.eqGuardType P.depth t = false := by simpa using hgd
      unfold eqGuard
      simp only [Sem.run_bind, Sem.run_ite, run_program, Result.andThen_ok, hgd', Bool.not_false, if_true, Sem.run_pure]
      simp
  case h_21 => cases h
  all_goals
    cases h
    cases hu
    cases hv
    refine ⟨?_, guard_plain (by intro cs h; cases h) (by intro h; cases h) _ _ _ _ _⟩
    rw [hstep]; simp [Op.equalIn, run_underlying hd']

theorem binA_run {E : Env} (hS : Smet E.P E.S) {op : BinOp} {t : TypeId} {x y z : AV} (h : binA E.P E.S op t x y = .ok z) {u v : Value} (hu : CR F ρ w u x) (hv : CR F ρ w v y) (ox oy : Operand) :
    ∃ r, (do eqGuard op t ox oy u v; binOp op t u v : Sem Value).run E.P w = .ok r w ∧ CR F ρ w r z := by
  unfold binA at h
  split at h
  · rename_i a b ha hb
    obtain rfl := toV_eq ha hu
    obtain rfl := toV_eq hb hv
    have := lift_ok h
    cases hr : pureRun E.P (binOp op t u v) with
    | none => simp [hr] at this
    | some r =>
      simp [hr] at this
      refine ⟨r, ?_, ofV_cr this⟩
      have hg : (eqGuard op t ox oy u v).run E.P w = .ok () w := by
        refine guard_plain (fun cs => ?_) ?_ _ _ _ _ _ <;> (intro he; cases x <;> simp [AV.toV] at ha <;> subst ha <;> cases he)
      rw [Sem.run_bind, hg, Result.andThen_ok]
      exact pureRun_run hr w
  · rename_i hno
    have hnn : ∀ (r : Value), u = .string ByteArray.empty → True := fun _ _ => trivial
    split at h
    · obtain ⟨b, hb, h⟩ := R.bind_ok h
      cases h
      obtain ⟨h1, h2⟩ := eqA_run hS hb hu hv .eql ox oy
      refine ⟨.bool b, ?_, .bool b⟩
      rw [Sem.run_bind, h2, Result.andThen_ok]
      have : binOp .eql t u v = (do pure (.bool (← Op.equal t u v)) : Sem Value) := by
        obtain ⟨d, hd, hb⟩ := R.bind_ok hb
        split at hb <;> first | (cases hb; done) | (cases hu <;> cases hv <;> rfl)
      rw [this]; simp [h1]
    · obtain ⟨b, hb, h⟩ := R.bind_ok h
      cases h
      obtain ⟨h1, h2⟩ := eqA_run hS hb hu hv .neq ox oy
      refine ⟨.bool (!b), ?_, .bool _⟩
      rw [Sem.run_bind, h2, Result.andThen_ok]
      have : binOp .neq t u v = (do pure (.bool (!(← Op.equal t u v))) : Sem Value) := by
        obtain ⟨d, hd, hb⟩ := R.bind_ok hb
        split at hb <;> first | (cases hb; done) | (cases hu <;> cases hv <;> rfl)
      rw [this]; simp [h1]
    · cases h
end
end Go.Proofs.YthfkkflogbibfaaGreatDoor.AM
