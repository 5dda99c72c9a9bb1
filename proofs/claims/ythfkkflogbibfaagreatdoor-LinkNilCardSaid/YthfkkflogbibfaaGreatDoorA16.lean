/- The abstract machine: operations hang on their operands alone. -/
import Derived.Test.YthfkkflogbibfaaGreatDoorA15
namespace Go.Proofs.YthfkkflogbibfaaGreatDoor.AM
set_option linter.unusedSectionVars false
set_option linter.unusedVariables false
set_option linter.unusedSimpArgs false

section
variable {E : Env}

theorem ev_congr {τ σ : Fr} {x : Operand} (h : ∀ t, x = .tmp t → τ t = σ t) : ev E τ x = ev E σ x := by
  cases x <;> simp only [ev]
  rw [h _ rfl]
def tmpsOf (xs : List Operand) : List Tmp := xs.filterMap fun | .tmp t => some t | _ => none
theorem mem_tmpsOf {xs : List Operand} {t : Tmp} : t ∈ tmpsOf xs ↔ .tmp t ∈ xs := by
  simp only [tmpsOf, List.mem_filterMap]
  constructor
  · rintro ⟨x, hx, h⟩
    cases x <;> simp at h
    subst h; exact hx
  · exact fun h => ⟨_, h, rfl⟩
theorem evs_congr {τ σ : Fr} : ∀ {xs : List Operand}, (∀ t, .tmp t ∈ xs → τ t = σ t) → evs E τ xs = evs E σ xs
  | [], h => rfl
  | x :: xs, h => by
    simp only [evs]
    rw [ev_congr (τ := τ) (σ := σ) (fun t ht => h t (by simp [ht])), evs_congr (fun t ht => h t (List.mem_cons_of_mem _ ht))]
theorem evo_congr {τ σ : Fr} {x : Option Operand} (h : ∀ t, x = some (.tmp t) → τ t = σ t) : evo E τ x = evo E σ x := by
  cases x with
  | none => rfl
  | some x => simp only [evo]; rw [ev_congr (fun t ht => h t (by rw [ht]))]

/-- two frames are the same at an operation's operands. -/
def Agree (τ σ : Fr) (o : Oper) : Prop := ∀ t, .tmp t ∈ o.op.operands → τ t = σ t

theorem opA_congr {f : FuncId} {call : CallF} {τ σ : Fr} {h : H} {o : Oper} (ha : Agree τ σ o) : opA E f call τ h o = opA E f call σ h o := by
  unfold Agree at ha
  have key : pureA E τ o = pureA E σ o ∧ (∀ h, readA E τ h o = readA E σ h o) ∧ lightA E τ o = lightA E σ o ∧ (∀ id, allocA E f τ id o = allocA E f σ id o) ∧ (∀ h, heavyA E f τ h o = heavyA E f σ h o) ∧ (∀ h, callA E call τ h o = callA E call σ h o) := by
    have hev : ∀ x, x ∈ o.op.operands → ev E τ x = ev E σ x := fun x hx => ev_congr (fun t ht => ha t (ht ▸ hx))
    have hevs : ∀ xs : List Operand, (∀ x, x ∈ xs → x ∈ o.op.operands) → evs E τ xs = evs E σ xs := fun xs hx => evs_congr (fun t ht => ha t (hx _ ht))
    have hevo : ∀ x : Option Operand, (∀ y, x = some y → y ∈ o.op.operands) → evo E τ x = evo E σ x := fun x hx => evo_congr (fun t ht => ha t (hx _ ht))
    cases ho : o.op <;> rw [ho] at ha hev hevs hevo <;> simp only [Op.operands] at ha hev hevs hevo
    case call c =>
      obtain ⟨callee, args, ats⟩ := c
      simp only [Call.operands] at ha
      have hargs : evs E τ args.toList = evs E σ args.toList := evs_congr (fun t ht => ha t (by cases callee <;> simp [Array.mem_toList_iff.1 ht]))
      cases callee with
      | value g =>
        have hg : ev E τ g = ev E σ g := ev_congr (fun t ht => ha t (by simp [ht]))
        simp only [pureA, readA, lightA, allocA, heavyA, callA, ho, hargs, hg, and_self, implies_true]
        cases g <;> simp [hargs]
      | builtin b => cases b <;> simp only [pureA, readA, lightA, allocA, heavyA, callA, ho, hargs, and_self, implies_true]
      | invoke r m => simp only [pureA, readA, lightA, allocA, heavyA, callA, ho, and_self, implies_true]
    case move x =>
      have h0_ := hev x (by simp)
      simp only [pureA, readA, lightA, allocA, heavyA, callA, ho, and_self, implies_true, h0_]
    case assign x =>
      have h0_ := hev x (by simp)
      simp only [pureA, readA, lightA, allocA, heavyA, callA, ho, and_self, implies_true, h0_]
    case box t x =>
      have h0_ := hev x (by simp)
      simp only [pureA, readA, lightA, allocA, heavyA, callA, ho, and_self, implies_true, h0_]
    case load t x =>
      have h0_ := hev x (by simp)
      simp only [pureA, readA, lightA, allocA, heavyA, callA, ho, and_self, implies_true, h0_]
    case nilCheck x =>
      have h0_ := hev x (by simp)
      simp only [pureA, readA, lightA, allocA, heavyA, callA, ho, and_self, implies_true, h0_]
    case unOp p t x =>
      have h0_ := hev x (by simp)
      simp only [pureA, readA, lightA, allocA, heavyA, callA, ho, and_self, implies_true, h0_]
    case convert s d x =>
      have h0_ := hev x (by simp)
      simp only [pureA, readA, lightA, allocA, heavyA, callA, ho, and_self, implies_true, h0_]
    case fieldAddr t x f =>
      have h0_ := hev x (by simp)
      simp only [pureA, readA, lightA, allocA, heavyA, callA, ho, and_self, implies_true, h0_]
    case field t x f =>
      have h0_ := hev x (by simp)
      simp only [pureA, readA, lightA, allocA, heavyA, callA, ho, and_self, implies_true, h0_]
    case extract x i =>
      have h0_ := hev x (by simp)
      simp only [pureA, readA, lightA, allocA, heavyA, callA, ho, and_self, implies_true, h0_]
    case pick c a b =>
      have h0_ := hev c (by simp)
      have h1_ := hev a (by simp)
      have h2_ := hev b (by simp)
      simp only [pureA, readA, lightA, allocA, heavyA, callA, ho, and_self, implies_true, h0_, h1_, h2_]
    case store t a v =>
      have h0_ := hev a (by simp)
      have h1_ := hev v (by simp)
      simp only [pureA, readA, lightA, allocA, heavyA, callA, ho, and_self, implies_true, h0_, h1_]
    case makeSlice t a v =>
      have h0_ := hev a (by simp)
      have h1_ := hev v (by simp)
      simp only [pureA, readA, lightA, allocA, heavyA, callA, ho, and_self, implies_true, h0_, h1_]
    case indexAddr t a v =>
      have h0_ := hev a (by simp)
      have h1_ := hev v (by simp)
      simp only [pureA, readA, lightA, allocA, heavyA, callA, ho, and_self, implies_true, h0_, h1_]
    case index t a v =>
      have h0_ := hev a (by simp)
      have h1_ := hev v (by simp)
      simp only [pureA, readA, lightA, allocA, heavyA, callA, ho, and_self, implies_true, h0_, h1_]
    case lookup t a v q =>
      have h0_ := hev a (by simp)
      have h1_ := hev v (by simp)
      simp only [pureA, readA, lightA, allocA, heavyA, callA, ho, and_self, implies_true, h0_, h1_]
    case binOp p t a v u =>
      have h0_ := hev a (by simp)
      have h1_ := hev v (by simp)
      simp only [pureA, readA, lightA, allocA, heavyA, callA, ho, and_self, implies_true, h0_, h1_]
    case mapUpdate t a b v =>
      have h0_ := hev a (by simp)
      have h1_ := hev b (by simp)
      have h2_ := hev v (by simp)
      simp only [pureA, readA, lightA, allocA, heavyA, callA, ho, and_self, implies_true, h0_, h1_, h2_]
    case insert t a b v =>
      have h0_ := hev a (by simp)
      have h1_ := hev b (by simp)
      have h2_ := hev v (by simp)
      simp only [pureA, readA, lightA, allocA, heavyA, callA, ho, and_self, implies_true, h0_, h1_, h2_]
    case build t parts =>
      have h0_ := hevs (parts.toList.map (·.2)) (fun x hx => by simp at hx ⊢; grind)
      simp only [pureA, readA, lightA, allocA, heavyA, callA, ho, and_self, implies_true, h0_]
    case buildSlice t n parts =>
      have h0_ := hevs (parts.toList.map (·.2)) (fun x hx => by simp at hx ⊢; grind)
      simp only [pureA, readA, lightA, allocA, heavyA, callA, ho, and_self, implies_true, h0_]
    case makeFunc fn first caps =>
      have h0_ := hevs first.toList (fun x hx => by simp at hx ⊢; grind)
      have h1_ := hevs caps.toList (fun x hx => by simp at hx ⊢; grind)
      simp only [pureA, readA, lightA, allocA, heavyA, callA, ho, and_self, implies_true, h0_, h1_]
    case slice t x lo hi mx =>
      have h0_ := hev x (by simp)
      have h1_ := hevo lo (fun x hx => by subst hx; simp)
      have h2_ := hevo hi (fun x hx => by subst hx; simp)
      have h3_ := hevo mx (fun x hx => by subst hx; simp)
      simp only [pureA, readA, lightA, allocA, heavyA, callA, ho, and_self, implies_true, h0_, h1_, h2_, h3_]
    case makeMap t r => cases r <;> simp only [pureA, readA, lightA, allocA, heavyA, callA, ho, and_self, implies_true]
    all_goals simp only [pureA, readA, lightA, allocA, heavyA, callA, ho, and_self, implies_true]
  unfold opA
  obtain ⟨h1, h2, h3, h4, h5, h6⟩ := key
  rw [h1, h2, h3, h4, h5, h6]
end
end Go.Proofs.YthfkkflogbibfaaGreatDoor.AM
