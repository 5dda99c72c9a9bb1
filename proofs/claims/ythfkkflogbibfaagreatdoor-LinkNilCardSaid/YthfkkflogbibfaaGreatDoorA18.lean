/- The abstract machine: regions that draw their order (2). -/
import Derived.Test.YthfkkflogbibfaaGreatDoorA17
namespace Go.Proofs.YthfkkflogbibfaaGreatDoor.AM
set_option linter.unusedSectionVars false
set_option linter.unusedVariables false
set_option linter.unusedSimpArgs false

section
variable {E : Env} {s0 nn : Nat} {rd : Option Nat} {f : FuncId} {call : CallF} {N : Nat} {ops : Array Oper}

/-- an operation that makes and writes no memory, at another memory that has what it looks at. -/
theorem quiet_wp (hS : Smet E.P E.S) (hC : COK E) {τ : Fr} {h h' : H} {o : Oper} {y : AV} (ho : opA E f call τ h o = .ok (y, h')) (hk : isO E o = false) {A : Area} {ρ : Rho} {w : World} {a : Act} {hp : H} (hr : HR E.G A ρ w (view hp)) (hf : FRel (Forb A ρ (view hp)) ρ w a.tmps τ)
    (hd : kindOf E o.op = .read → ∀ b, readDep E τ o = some b → hp[b]? = h[b]?) {K : Act → World → Prop} {Q : Exit → Act → World → Prop}
    (hK : h' = h → ∀ v w' ρ', Ext (Own ρ (view hp)) ρ w (Own ρ' (view hp)) ρ' w' → HR E.G A ρ' w' (view hp) → CR (Forb A ρ' (view hp)) ρ' w' v y → K (a.put o.dst v) w') : o.wpIn (fw rd) nn E.P a w K Q := by
  have ho0 := ho
  unfold opA at ho
  cases hkk : kindOf E o.op with
  | pure =>
    simp only [hkk] at ho
    obtain ⟨v, hv, ho⟩ := R.bind_ok ho
    cases ho
    obtain ⟨u, hu, hc⟩ := pureA_run hS hf hr.glob' hv hkk
    exact gives_wp (opA_nd ho0) (.inl hu) (hK rfl u w ρ (Ext.refl _ _ _) hr hc)
  | read =>
    simp only [hkk] at ho
    obtain ⟨v, hv, ho⟩ := R.bind_ok ho
    cases ho
    obtain ⟨u, hu, hc⟩ := readA_run hS hr hf hv (fun b hb => hd hkk b hb)
    exact gives_wp (opA_nd ho0) (.inl hu) (hK rfl u w ρ (Ext.refl _ _ _) hr hc)
  | light =>
    simp only [hkk] at ho
    obtain ⟨v, hv, ho⟩ := R.bind_ok ho
    cases ho
    cases hop : o.op with
    | call c =>
      obtain ⟨callee, args, ats⟩ := c
      cases callee with
      | value g =>
        cases g with
        | func g =>
          simp only [lightA, hop] at hv
          obtain ⟨as, has, hv⟩ := R.bind_ok hv
          have hca := evs_cr hf hr.glob' has
          split at hv
          · rename_i r hrr
            split at hv
            · rename_i hnf
              cases hv
              have hargs : CRs (Forb A ρ (view hp)) ρ w (args.map a.eval).toList as := by rw [Array.toList_map]; exact hca
              obtain ⟨hen, hcalls⟩ := hC g as hp y hp (by simp only [hrr, noF_thaw y hnf hp]) A ρ w _ hr hargs
              have hrun : (execOp a.eval o).run E.P w = .ok (.enter g (args.map a.eval)) w := by
                unfold execOp
                have := hen w
                simp [hop, resolve, Act.eval, Deferred.ofValue, invoke, this]
              refine enters_wp (opA_nd ho0) hrun hcalls ?_
              rintro e w' ⟨v, ρ', rfl, h1, h2, h3⟩
              exact ⟨v, rfl, hK rfl v w' ρ' h1 h2 h3⟩
            · cases hv
          · cases hv
        | _ => simp only [lightA, hop] at hv; cases hv
      | builtin b => simp only [lightA, hop] at hv; cases hv
      | invoke r m => simp only [lightA, hop] at hv; cases hv
    | _ => simp only [lightA, hop] at hv; cases hv
  | alloc => simp [isO, hkk] at hk
  | heavy => simp [isO, hkk] at hk
  | call => simp [isO, hkk] at hk

theorem readDep_congr {τ σ : Fr} {o : Oper} (ha : Agree τ σ o) : readDep E τ o = readDep E σ o := by
  unfold Agree at ha
  have hev : ∀ x, x ∈ o.op.operands → ev E τ x = ev E σ x := fun x hx => ev_congr (fun t ht => ha t (ht ▸ hx))
  unfold readDep
  cases ho : o.op <;> rw [ho] at hev <;> simp only [Op.operands] at hev
  case load t x => simp only [hev x (by simp)]
  case convert s d x => simp only [hev x (by simp)]
  case lookup t m k b => simp only [hev m (by simp)]
  case call c =>
    obtain ⟨callee, args, ats⟩ := c
    simp only [Call.operands] at hev
    cases ha : args.toList with
    | nil => simp [ha]
    | cons x xs =>
      cases xs with
      | nil =>
        have hx : x ∈ args := by rw [← Array.mem_toList_iff, ha]; exact List.mem_cons_self ..
        simp only [ha, hev x (by simp [hx])]
      | cons y ys => simp [ha]

theorem putA_other {τ τ' : Fr} {dst : Option Nat} {v : AV} (h : putA N τ dst v = .ok τ') {t : Nat} (ht : dst ≠ some t) : τ' t = τ t := by
  cases dst with
  | none => cases h; rfl
  | some d =>
    simp only [putA] at h
    split at h <;> cases h
    simp only [upd]
    rw [if_neg]
    intro e; exact ht (by rw [e])
theorem putA_self {τ τ' : Fr} {t : Nat} {v : AV} (h : putA N τ (some t) v = .ok τ') : τ' t = v ∧ t < N := by
  simp only [putA] at h
  split at h <;> cases h
  rename_i hlt
  exact ⟨by simp [upd], hlt⟩

theorem wantA_congr {τ σ : Fr} {o : Oper} (h : ∀ t, t ∈ o.looksAt ops → τ t = σ t) : wantA ops τ o = wantA ops σ o := by
  unfold wantA
  cases hg : o.guard with
  | none => rfl
  | some p =>
    obtain ⟨j, want⟩ := p
    simp only
    cases hd : (ops[j]?).bind (·.dst) with
    | none => rfl
    | some d =>
      simp only
      rw [h d (by simp [Oper.looksAt, hg, hd])]
theorem gtop_congr {τ σ : Fr} {o : Oper} (h : ∀ t, t ∈ o.looksAt ops → τ t = σ t) : gtop ops τ o = gtop ops σ o := by
  unfold gtop
  cases hg : o.guard with
  | none => rfl
  | some p =>
    obtain ⟨j, want⟩ := p
    simp only
    cases hd : (ops[j]?).bind (·.dst) with
    | none => rfl
    | some d =>
      simp only
      rw [h d (by simp [Oper.looksAt, hg, hd])]
theorem agree_of {τ σ : Fr} {o : Oper} (h : ∀ t, t ∈ o.looksAt ops → τ t = σ t) : Agree τ σ o := fun t ht => h t (by
  unfold Oper.looksAt
  refine List.mem_append_left _ (List.mem_filterMap.2 ⟨.tmp t, Array.mem_toList_iff.2 ht, rfl⟩))

/-- what one step does to the slots and the memory. -/
theorem stepA_inv {τ τ' : Fr} {h h' : H} {o : Oper} (hs : stepA E f call N ops τ h o = .ok (τ', h')) :
    (wantA ops τ o = true ∧ ∃ v, opA E f call τ h o = .ok (v, h') ∧ putA N τ o.dst v = .ok τ') ∨ (wantA ops τ o = false ∧ h' = h ∧ putA N τ o.dst undef = .ok τ') := by
  unfold stepA at hs
  split at hs
  · cases hs
  split at hs
  · rename_i hw
    split at hs
    · rename_i v h2 hop
      obtain ⟨τ2, hp, hs⟩ := R.bind_ok hs
      cases hs
      exact .inl ⟨hw, v, hop, hp⟩
    · cases hs
  · rename_i hw
    obtain ⟨τ2, hp, hs⟩ := R.bind_ok hs
    cases hs
    exact .inr ⟨by simpa using hw, rfl, hp⟩
theorem stepA_quiet {τ τ' : Fr} {h h' : H} {o : Oper} (hs : stepA E f call N ops τ h o = .ok (τ', h')) (hk : isO E o = false) : h' = h := by
  rcases stepA_inv hs with ⟨_, v, hop, _⟩ | ⟨_, rfl, _⟩
  · unfold opA at hop
    cases hkk : kindOf E o.op <;> simp only [hkk] at hop <;> first | (simp [isO, hkk] at hk; done) | (obtain ⟨u, _, hop⟩ := R.bind_ok hop; cases hop; rfl)
  · rfl

theorem read_wp (hS : Smet E.P E.S) {τ : Fr} {h : H} {o : Oper} {y : AV} (ho : readA E τ h o = .ok y) {A : Area} {ρ : Rho} {w : World} {a : Act} {hp : H} (hr : HR E.G A ρ w (view hp)) (hf : FRel (Forb A ρ (view hp)) ρ w a.tmps τ)
    (hd : ∀ b, readDep E τ o = some b → hp[b]? = h[b]?) {K : Act → World → Prop} {Q : Exit → Act → World → Prop}
    (hK : ∀ v, CR (Forb A ρ (view hp)) ρ w v y → K (a.put o.dst v) w) : o.wpIn (fw rd) nn E.P a w K Q := by
  obtain ⟨u, hu, hc⟩ := readA_run hS hr hf ho (fun b hb => hd b hb)
  refine gives_wp (fun c hc => ?_) (.inl hu) (hK u hc)
  simp [readA, hc] at ho

theorem isAl_isO {o : Oper} (h : isAl E o = true) : isO E o = true := by
  unfold isAl at h; unfold isO
  cases hk : kindOf E o.op <;> simp [hk] at h ⊢
theorem isO_isAl {o : Oper} (h : isO E o = false) : isAl E o = false := by
  cases ha : isAl E o
  · rfl
  · rw [isAl_isO ha] at h; cases h
theorem isAl_kind {o : Oper} (h : isAl E o = true) : kindOf E o.op = .alloc := by
  unfold isAl at h
  cases hk : kindOf E o.op <;> simp [hk] at h ⊢

/-- what one step of a region without an order does. -/
theorem stepD_al {id : Nat} {τ τ' : Fr} {h h' : H} {o : Oper} (hs : stepD E f call N ops id τ h o = .ok (τ', h')) (ha : isAl E o = true) :
    (wantA ops τ o = true ∧ h[id]? = some .hole ∧ ∃ v b, allocA E f τ id o = .ok (v, b) ∧ h' = h.set id b ∧ putA N τ o.dst v = .ok τ') ∨ (wantA ops τ o = false ∧ h' = h ∧ putA N τ o.dst undef = .ok τ') := by
  unfold stepD at hs
  rw [if_pos ha] at hs
  split at hs
  · cases hs
  split at hs
  · rename_i hw
    split at hs
    · rename_i hh
      split at hs
      · rename_i v b hal
        obtain ⟨τ2, hp, hs⟩ := R.bind_ok hs
        cases hs
        exact .inl ⟨hw, hh, v, b, hal, rfl, hp⟩
      · cases hs
    · cases hs
  · rename_i hw
    obtain ⟨τ2, hp, hs⟩ := R.bind_ok hs
    cases hs
    exact .inr ⟨by simpa using hw, rfl, hp⟩
theorem stepD_ot {id : Nat} {τ τ' : Fr} {h h' : H} {o : Oper} (hs : stepD E f call N ops id τ h o = .ok (τ', h')) (ha : isAl E o = false) : stepA E f call N ops τ h o = .ok (τ', h') := by
  unfold stepD at hs
  simpa [ha] using hs
theorem stepD_gtop {id : Nat} {τ τ' : Fr} {h h' : H} {o : Oper} (hs : stepD E f call N ops id τ h o = .ok (τ', h')) : gtop ops τ o = false := by
  unfold stepD at hs
  split at hs
  · split at hs
    · cases hs
    · rename_i h1; simpa using h1
  · unfold stepA at hs
    split at hs
    · cases hs
    · rename_i h1; simpa using h1
theorem stepD_put {id : Nat} {τ τ' : Fr} {h h' : H} {o : Oper} (hs : stepD E f call N ops id τ h o = .ok (τ', h')) : ∃ y, putA N τ o.dst y = .ok τ' := by
  cases ha : isAl E o
  · rcases stepA_inv (stepD_ot hs ha) with ⟨_, v, _, hp⟩ | ⟨_, _, hp⟩ <;> exact ⟨_, hp⟩
  · rcases stepD_al hs ha with ⟨_, _, v, b, _, _, hp⟩ | ⟨_, _, hp⟩ <;> exact ⟨_, hp⟩

theorem alsOf_succ {i : Nat} (hi : i < ops.size) : alsOf E (ops.toList.take (i + 1)) = alsOf E (ops.toList.take i) + (if isAl E (opAt ops i) then 1 else 0) := by
  have hg : ops.toList[i]? = some (opAt ops i) := by rw [Array.getElem?_toList]; exact opAt_get hi
  have hl : i < ops.toList.length := by simpa using hi
  rw [List.take_succ_eq_append_getElem hl]
  have he : ops.toList[i] = opAt ops i := by rw [List.getElem?_eq_getElem hl] at hg; exact Option.some.inj hg
  rw [he]
  simp only [alsOf, List.filter_append, List.length_append, List.filter_cons, List.filter_nil]
  split <;> simp
theorem alsOf_mono {i j : Nat} (hij : i ≤ j) (hj : j ≤ ops.size) : alsOf E (ops.toList.take i) ≤ alsOf E (ops.toList.take j) := by
  induction j with
  | zero => obtain rfl : i = 0 := by omega
            exact Nat.le_refl _
  | succ j ih =>
    by_cases h : i = j + 1
    · rw [h]; exact Nat.le_refl _
    · rw [alsOf_succ (by omega)]; have := ih (by omega) (by omega); omega
theorem idAt_lt {base i j : Nat} (hij : i < j) (hj : j < ops.size) (ha : isAl E (opAt ops i) = true) : idAt E ops base i < idAt E ops base j := by
  have h1 := alsOf_mono (E := E) (ops := ops) (show i + 1 ≤ j by omega) (by omega)
  rw [alsOf_succ (by omega), ha] at h1
  unfold idAt
  simp at h1; omega
theorem idAt_ne {base i j : Nat} (hij : i ≠ j) (hi : i < ops.size) (hj : j < ops.size) (ha : isAl E (opAt ops i) = true) (hb : isAl E (opAt ops j) = true) : idAt E ops base i ≠ idAt E ops base j := by
  rcases Nat.lt_or_ge i j with h | h
  · exact Nat.ne_of_lt (idAt_lt h hj ha)
  · exact Nat.ne_of_gt (idAt_lt (by omega) hi hb)

section region
variable {T : Nat → Fr} {Hh : Nat → H} {ms : List Nat} {base : Nat}

/-- the text's own run. -/
structure Run (E : Env) (f : FuncId) (call : CallF) (N : Nat) (ops : Array Oper) (base : Nat) (T : Nat → Fr) (Hh : Nat → H) : Prop where
  step : ∀ i, i < ops.size → stepD E f call N ops (idAt E ops base i) (T i) (Hh i) (opAt ops i) = .ok (T (i + 1), Hh (i + 1))
  kept : ∀ i m, i < ops.size → isAl E (opAt ops i) = true → m ≤ i → (Hh m)[idAt E ops base i]? = some .hole

theorem Run.slot (hR : Run E f call N ops base T Hh) {t : Nat} : ∀ {p q : Nat}, p ≤ q → q ≤ ops.size → (∀ i, p ≤ i → i < q → (opAt ops i).dst ≠ some t) → T p t = T q t := by
  intro p q
  induction q with
  | zero => intro h _ _; obtain rfl : p = 0 := by omega
            rfl
  | succ q ih =>
    intro h hq hk
    by_cases hpq : p = q + 1
    · rw [hpq]
    · rw [ih (by omega) (by omega) (fun i h1 h2 => hk i h1 (by omega))]
      obtain ⟨y, hp⟩ := stepD_put (hR.step q (by omega))
      exact (putA_other hp (hk q (by omega) (by omega))).symm
theorem Run.quiet (hR : Run E f call N ops base T Hh) {q : Nat} (hq : q < ops.size) (ho : isO E (opAt ops q) = false) : Hh (q + 1) = Hh q :=
  stepA_quiet (stepD_ot (hR.step q hq) (isO_isAl ho)) ho
/-- the block that is looked at is the same at all the places where a read may stand. -/
theorem Run.same (hR : Run E f call N ops base T Hh) {b : Nat} : ∀ {p q : Nat}, p ≤ q → q ≤ ops.size → (∀ i, p ≤ i → i < q → isO E (opAt ops i) = true → (Hh i)[b]? = (Hh (i + 1))[b]?) → (Hh p)[b]? = (Hh q)[b]? := by
  intro p q
  induction q with
  | zero => intro h _ _; obtain rfl : p = 0 := by omega
            rfl
  | succ q ih =>
    intro h hq hk
    by_cases hpq : p = q + 1
    · rw [hpq]
    · rw [ih (by omega) (by omega) (fun i h1 h2 => hk i h1 (by omega))]
      cases ho : isO E (opAt ops q)
      · rw [hR.quiet (by omega) ho]
      · exact hk q (by omega) (by omega) ho
theorem Run.other (hR : Run E f call N ops base T Hh) {q b : Nat} (hq : q < ops.size) (ha : isAl E (opAt ops q) = true) (hb : b ≠ idAt E ops base q) : (Hh q)[b]? = (Hh (q + 1))[b]? := by
  rcases stepD_al (hR.step q hq) ha with ⟨_, _, v, x, _, he, _⟩ | ⟨_, he, _⟩
  · rw [he, List.getElem?_set_ne (fun h => hb h.symm)]
  · rw [he]

def Done (listed : Array Bool) (i : Nat) : Prop := listed[i]? = some true

/-- operations whose memory is there ahead of its place in the text. -/
def Early (E : Env) (ops : Array Oper) (T : Nat → Fr) (listed : Array Bool) (p i : Nat) : Prop :=
  p ≤ i ∧ i < ops.size ∧ isAl E (opAt ops i) = true ∧ Done listed i ∧ wantA ops (T i) (opAt ops i) = true
/-- the cells of such memory. -/
def EA (E : Env) (ops : Array Oper) (base : Nat) (D : Nat → Prop) (ρ : Rho) : Area := fun B off => ∃ i k, D i ∧ ρ (idAt E ops base i) = some (B, k) ∧ k ≤ off
def Plus (A X : Area) : Area := fun B off => A B off ∨ X B off

structure Inv (E : Env) (f : FuncId) (N s0 : Nat) (ops : Array Oper) (base : Nat) (T : Nat → Fr) (Hh : Nat → H) (A : Area) (listed : Array Bool) (ρ0 : Rho) (w0 : World) (ρ : Rho) (w : World) (a : Act) (p : Nat) : Prop where
  size : listed.size = ops.size
  closed : Closed ops (Done listed)
  le : p ≤ ops.size
  chain : ∀ i, i < ops.size → isO E (opAt ops i) = true → isAl E (opAt ops i) = false → (Done listed i ↔ i < p)
  als : ∀ i, i < p → isAl E (opAt ops i) = true → Done listed i
  hr : HR E.G (Plus A (EA E ops base (Early E ops T listed p) ρ)) ρ w (view (Hh p))
  nyet : ∀ i, p ≤ i → i < ops.size → isAl E (opAt ops i) = true → ¬ Early E ops T listed p i → ρ (idAt E ops base i) = none
  early : ∀ i, Early E ops T listed p i → ∃ B k v x, ρ (idAt E ops base i) = some (B, k) ∧ allocA E f (T i) (idAt E ops base i) (opAt ops i) = .ok (v, x) ∧ x.alive = true ∧ B < w.heap.size ∧
    BR (Forb (Plus A (EA E ops base (Early E ops T listed p) ρ)) ρ (view (Hh p))) ρ w B k x ∧ ∀ off, ¬ A B off
  sep : ∀ i b B k k1, Early E ops T listed p i → ρ (idAt E ops base i) = some (B, k) → ρ b = some (B, k1) → b = idAt E ops base i
  ext : Ext (Own ρ0 (view (Hh 0))) ρ0 w0 (Plus (Own ρ (view (Hh p))) (EA E ops base (Early E ops T listed p) ρ)) ρ w
  slots : ∀ t q, q ≤ ops.size → (∀ i, i < q → (opAt ops i).dst = some t → Done listed i) → (∀ i, q ≤ i → i < ops.size → (opAt ops i).dst = some t → ¬ Done listed i) →
    TR (Forb (Plus A (EA E ops base (Early E ops T listed p) ρ)) ρ (view (Hh p))) ρ w (a.tmps.getD t Go.undef) (T q t)
  sz : a.tmps.size = N
  de : DeOK s0 a.defers w (Plus (Own ρ (view (Hh p))) (EA E ops base (Early E ops T listed p) ρ))

theorem done_set {listed : Array Bool} {j : Nat} (hj : j < listed.size) (i : Nat) : Done (listed.setIfInBounds j true) i ↔ i = j ∨ Done listed i := by
  unfold Done
  by_cases h : j = i
  · subst h; simp [Array.getElem?_setIfInBounds_self_of_lt hj]
  · rw [Array.getElem?_setIfInBounds_ne h]
    constructor
    · exact .inr
    · rintro (h' | h')
      · exact absurd h'.symm h
      · exact h'

theorem Inv.least {A : Area} {listed : Array Bool} {ρ0 ρ : Rho} {w0 w : World} {a : Act} {p : Nat} (hI : Inv E f N s0 ops base T Hh A listed ρ0 w0 ρ w a p) (hD : DrawOk E ops ms) (t : Nat) :
    ∃ q, q ≤ ops.size ∧ (∀ i, i < q → (opAt ops i).dst = some t → Done listed i) ∧ (∀ i, q ≤ i → i < ops.size → (opAt ops i).dst = some t → ¬ Done listed i) := by
  by_cases hex : ∃ k, k < ops.size ∧ (opAt ops k).dst = some t ∧ ¬ Done listed k
  · obtain ⟨k, ⟨hk1, hk2, hk3⟩, hmin⟩ : ∃ k, (k < ops.size ∧ (opAt ops k).dst = some t ∧ ¬ Done listed k) ∧ ∀ i, i < k → ¬ (i < ops.size ∧ (opAt ops i).dst = some t ∧ ¬ Done listed i) := by
      obtain ⟨k, hk⟩ := hex
      induction k using Nat.strongRecOn with
      | _ k ih =>
        by_cases hlt : ∃ i, i < k ∧ (i < ops.size ∧ (opAt ops i).dst = some t ∧ ¬ Done listed i)
        · obtain ⟨i, hi, h⟩ := hlt; exact ih i hi h
        · exact ⟨k, hk, fun i hi h => hlt ⟨i, hi, h⟩⟩
    refine ⟨k, by omega, fun i hi hd => ?_, fun i hi hn hd hdone => ?_⟩
    · exact Classical.byContradiction fun hnd => hmin i hi ⟨by omega, hd, hnd⟩
    · rcases Nat.lt_or_ge k i with hlt | hge
      · exact hk3 (hD.msk.closed hI.closed i hn hdone k (hD.tt k i t hlt hn (.inl ⟨hk2, .inr hd⟩)))
      · obtain rfl : i = k := by omega
        exact hk3 hdone
  · exact ⟨ops.size, Nat.le_refl _, fun i hi hd => Classical.byContradiction fun hnd => hex ⟨i, hi, hd, hnd⟩, fun i h1 h2 => by omega⟩

theorem mem_ready {listed : Array Bool} (hsz : listed.size = ops.size) {j : Nat} (h : j ∈ Region.ready .any ops listed) : j < ops.size ∧ ¬ Done listed j ∧ ∀ e ∈ (opAt ops j).after, Region.binds .any e = true → Done listed e.on := by
  unfold Region.ready at h
  rw [List.mem_filter, List.mem_range] at h
  obtain ⟨hj, h⟩ := h
  rw [Bool.and_eq_true, opAt_get hj] at h
  simp only [Option.map_some, Option.getD_some] at h
  refine ⟨hj, fun hd => ?_, fun e he hb => ?_⟩
  · unfold Done at hd
    have := h.1
    simp [Array.getD_eq_getD_getElem?, hd] at this
  · have := Array.all_eq_true_iff_forall_mem.1 h.2 e he
    rw [hb] at this
    simp only [Bool.not_true, Bool.false_or] at this
    unfold Done
    rw [Array.getD_eq_getD_getElem?] at this
    cases hl : listed[e.on]? with
    | none => rw [hl] at this; simp at this
    | some b => rw [hl] at this; simp at this; rw [this]

theorem all_done {listed : Array Bool} (hsz : listed.size = ops.size) (hm : Masked ops ms) (hr : Region.ready .any ops listed = []) : ∀ i, i < ops.size → Done listed i := by
  intro i
  induction i using Nat.strongRecOn with
  | _ i ih =>
    intro hi
    refine Classical.byContradiction fun hnd => ?_
    have : i ∈ Region.ready .any ops listed := by
      unfold Region.ready
      rw [List.mem_filter, List.mem_range]
      refine ⟨hi, ?_⟩
      rw [Bool.and_eq_true, opAt_get hi]
      constructor
      · rw [Array.getD_eq_getD_getElem?]
        cases hl : listed[i]? with
        | none =>
          have : i < listed.size := by omega
          simp [Array.getElem?_eq_getElem this] at hl
        | some b =>
          cases b
          · rfl
          · exact absurd hl hnd
      · simp only [Option.map_some, Option.getD_some]
        rw [Array.all_eq_true_iff_forall_mem]
        intro e he
        cases hb : Region.binds .any e
        · rfl
        · have hlt := hm.low i hi e he hb
          have := ih e.on hlt (by omega)
          unfold Done at this
          simp [Array.getD_eq_getD_getElem?, this]
    rw [hr] at this
    simp at this
end region
end
end Go.Proofs.YthfkkflogbibfaaGreatDoor.AM
