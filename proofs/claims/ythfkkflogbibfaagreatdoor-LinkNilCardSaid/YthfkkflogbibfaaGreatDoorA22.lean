/- The abstract machine: memory that is made ahead of its place in the text. -/
import Derived.Test.YthfkkflogbibfaaGreatDoorA18
namespace Go.Proofs.YthfkkflogbibfaaGreatDoor.AM
set_option linter.unusedSectionVars false
set_option linter.unusedVariables false
set_option linter.unusedSimpArgs false

section
variable {G : Nat → Option (List AV)} {A A' : Area} {ρ ρ' : Rho} {w w' : World} {g : View}

theorem HR.hide (hr : HR G A ρ w g) {b B k : Nat} {x : Blk} (hρ : ρ b = some (B, k)) (hg : g b = some x) (hal : x.alive = true) (hA : ∀ B' off, A' B' off ↔ (A B' off ∨ (B' = B ∧ k ≤ off))) :
    HR G A' ρ w (setG g b .hole) ∧ Forb A' ρ (setG g b .hole) = Forb A ρ g := by
  have hown : ∀ B' off, Own ρ g B' off ↔ (Own ρ (setG g b .hole) B' off ∨ (B' = B ∧ k ≤ off)) := by
    intro B' off
    constructor
    · rintro ⟨b', k', y, h1, h2, h3, h4⟩
      by_cases hb : b' = b
      · subst hb; rw [hρ] at h1; cases h1; exact .inr ⟨rfl, h4⟩
      · exact .inl ⟨b', k', y, h1, by simp [setG, hb, h2], h3, h4⟩
    · rintro (⟨b', k', y, h1, h2, h3, h4⟩ | ⟨rfl, h⟩)
      · simp only [setG] at h2
        split at h2
        · cases h2; cases h3
        · exact ⟨b', k', y, h1, h2, h3, h4⟩
      · exact ⟨b, k, x, hρ, hg, hal, h⟩
  have hF : Forb A' ρ (setG g b .hole) = Forb A ρ g := by
    funext B' off
    apply propext
    unfold Forb
    rw [hown, hA]
    constructor
    · rintro (h | h | h)
      · exact .inl (.inl h)
      · exact .inr h
      · exact .inl (.inr h)
    · rintro ((h | h) | h)
      · exact .inl h
      · exact .inr (.inr h)
      · exact .inr (.inl h)
  refine ⟨⟨fun b' h => ?_, fun b' y h hy => ?_, fun b' h B' k' hk => ?_, fun b1 b2 B' k1 k2 x1 x2 h1 h2 h3 h4 h5 h6 => ?_, fun B' off ha => ?_, fun i cs h => by rw [hF]; exact hr.glob i cs h⟩, hF⟩
  · simp only [setG] at h
    split at h
    · cases h
    · exact hr.dom b' h
  · simp only [setG] at h
    split at h
    · cases h; exact absurd rfl hy
    · rw [hF]; exact hr.blk b' y h hy
  · simp only [setG] at h
    split at h
    · rename_i e; subst e; rw [hρ] at hk; cases hk; exact (hA _ _).2 (.inr ⟨rfl, Nat.le_refl _⟩)
    · exact (hA _ _).2 (.inl (hr.hole b' h B' k' hk))
  · simp only [setG] at h3 h4
    split at h3
    · cases h3; cases h5
    · split at h4
      · cases h4; cases h6
      · exact hr.sep b1 b2 B' k1 k2 x1 x2 h1 h2 h3 h4 h5 h6
  · rcases (hA B' off).1 ha with h | ⟨rfl, h⟩
    · have := hr.avo B' off h
      exact ⟨this.1, fun ho => this.2 ((hown _ _).2 (.inl ho))⟩
    · refine ⟨hr.lt hρ, ?_⟩
      rintro ⟨b', k', y, h1, h2, h3, h4⟩
      simp only [setG] at h2
      split at h2
      · cases h2; cases h3
      · rename_i hb; exact hb (hr.sep b' b B' k' k y x h1 hρ h2 hg h3 hal)

/-- what belongs to memory that is set aside is no one's else. -/
theorem HR.apart (hr : HR G A ρ w g) {B k : Nat} (hA : ∀ off, k ≤ off → A B off) : ∀ off, ¬ Own ρ g B off := by
  rintro off ⟨b, k', y, h1, h2, h3, h4⟩
  exact (hr.avo B (max k k') (hA _ (Nat.le_max_left ..))).2 ⟨b, k', y, h1, h2, h3, Nat.le_max_right ..⟩

theorem HR.shown (hr : HR G A' ρ w g) {b B k : Nat} {x : Blk} (hρ : ρ b = some (B, k)) (hal : x.alive = true) (hB : B < w.heap.size) (hg : g b = some .hole) (hbr : BR (Forb A' ρ g) ρ w B k x)
    (hA : ∀ B' off, A' B' off ↔ (A B' off ∨ (B' = B ∧ k ≤ off))) (hd : ∀ off, k ≤ off → ¬ A B off) (hs : ∀ b' k', ρ b' = some (B, k') → b' = b) :
    HR G A ρ w (setG g b x) ∧ Forb A ρ (setG g b x) = Forb A' ρ g := by
  have hap := hr.apart (B := B) (k := k) (fun off h => (hA _ _).2 (.inr ⟨rfl, h⟩))
  have hown : ∀ B' off, Own ρ (setG g b x) B' off ↔ (Own ρ g B' off ∨ (B' = B ∧ k ≤ off)) := by
    intro B' off
    constructor
    · rintro ⟨b', k', y, h1, h2, h3, h4⟩
      simp only [setG] at h2
      split at h2
      · rename_i hb; subst hb; rw [hρ] at h1; cases h1; exact .inr ⟨rfl, h4⟩
      · exact .inl ⟨b', k', y, h1, h2, h3, h4⟩
    · rintro (⟨b', k', y, h1, h2, h3, h4⟩ | ⟨rfl, h⟩)
      · refine ⟨b', k', y, h1, ?_, h3, h4⟩
        simp only [setG]
        split
        · rename_i hb; rw [hb, hg] at h2; cases h2; cases h3
        · exact h2
      · exact ⟨b, k, x, hρ, by simp [setG], hal, h⟩
  have hF : Forb A ρ (setG g b x) = Forb A' ρ g := by
    funext B' off
    apply propext
    unfold Forb
    rw [hown, hA]
    constructor
    · rintro ((h | h) | h)
      · exact .inl h
      · exact .inr (.inr h)
      · exact .inr (.inl h)
    · rintro (h | h | h)
      · exact .inl (.inl h)
      · exact .inr h
      · exact .inl (.inr h)
  refine ⟨⟨fun b' h => ?_, fun b' y h hy => ?_, fun b' h B' k' hk => ?_, fun b1 b2 B' k1 k2 x1 x2 h1 h2 h3 h4 h5 h6 => ?_, fun B' off ha => ?_, fun i cs h => by rw [hF]; exact hr.glob i cs h⟩, hF⟩
  · simp only [setG] at h
    split at h
    · cases h
    · exact hr.dom b' h
  · simp only [setG] at h
    rw [hF]
    split at h
    · rename_i hb; cases h; exact ⟨B, k, by rw [hb]; exact hρ, hB, hbr⟩
    · exact hr.blk b' y h hy
  · simp only [setG] at h
    split at h
    · cases h; cases hal
    · rename_i hb
      rcases (hA _ _).1 (hr.hole b' h B' k' hk) with h1 | ⟨rfl, _⟩
      · exact h1
      · exact absurd (hs b' k' hk) hb
  · simp only [setG] at h3 h4
    split at h3
    · rename_i e1
      split at h4
      · rename_i e2; rw [e1, e2]
      · subst e1
        rw [hρ] at h1; cases h1
        exact (hs b2 k2 h2).symm
    · split at h4
      · rename_i e2
        subst e2
        rw [hρ] at h2; cases h2
        exact hs b1 k1 h1
      · exact hr.sep b1 b2 B' k1 k2 x1 x2 h1 h2 h3 h4 h5 h6
  · have h1 := hr.avo B' off ((hA _ _).2 (.inl ha))
    refine ⟨h1.1, fun ho => ?_⟩
    rcases (hown _ _).1 ho with h | ⟨rfl, h⟩
    · exact h1.2 h
    · exact hd off h ha

theorem Ext.widen {O O' O1 O1' : Area} (h : Ext O ρ w O' ρ' w') (h1 : ∀ B off, O B off → O1 B off) (h2 : ∀ B off, O1' B off → O1 B off ∨ w.heap.size ≤ B) : Ext O1 ρ w O1' ρ' w' :=
  ⟨h.sub, h2, fun b B k hb => by rcases h.newρ b B k hb with h' | h' | h'; · exact .inl h'
                                 · exact .inr (.inl (h1 _ _ h'))
                                 · exact .inr (.inr h'), h.st, h.size,
   fun B cs e fz hb => by
     obtain ⟨cs', k1, k2, k3⟩ := h.keep B cs e fz hb
     exact ⟨cs', k1, k2, fun off ho hn => k3 off ho (fun hh => hn (h1 _ _ hh))⟩,
   fun B hB hn => h.keepo B hB (fun off hh => hn off (h1 _ _ hh))⟩
end

section
variable {E : Env} {s0 nn : Nat} {rd : Option Nat} {f : FuncId} {call : CallF} {N : Nat} {ops : Array Oper} {base : Nat} {T : Nat → Fr} {Hh : Nat → H} {ms : List Nat}

theorem allocA_congr {τ σ : Fr} {id : Nat} {o : Oper} (hk : kindOf E o.op = .alloc) (ha : Agree τ σ o) {v : AV} {b : Blk} (h : allocA E f τ id o = .ok (v, b)) : allocA E f σ id o = .ok (v, b) := by
  have h1 := opA_congr (E := E) (f := f) (call := fun _ _ _ => .no "") (h := List.replicate id .dead) ha
  unfold opA at h1
  simp only [hk, List.length_replicate, h] at h1
  cases hs : allocA E f σ id o with
  | no s => rw [hs] at h1; cases h1
  | ok p =>
    obtain ⟨v', b'⟩ := p
    rw [hs] at h1
    have h2 := R.ok.inj h1
    simp only [Prod.mk.injEq, List.append_cancel_left_eq, List.cons.injEq, and_true] at h2
    rw [h2.1, h2.2]

/-- a read looks at one block alone. -/
theorem loadA_dep {P : Program} {h h' : H} {t : TypeId} {p : AV} (hd : ∀ b, depOf p = some b → h[b]? = h'[b]?) : loadA P h t p = loadA P h' t p := by
  cases p <;> first | rfl | (simp only [loadA, hd _ rfl])
theorem elemsA_dep {h h' : H} {p : AV} (hd : ∀ b, depOf p = some b → h[b]? = h'[b]?) : elemsA h p = elemsA h' p := by
  cases p <;> first | rfl | (simp only [elemsA, hd _ rfl])
theorem mapOf_dep {h h' : H} {p : AV} (hd : ∀ b, depOf p = some b → h[b]? = h'[b]?) : mapOf h p = mapOf h' p := by
  cases p <;> first | rfl | (simp only [mapOf, hd _ rfl])
theorem readA_dep {τ : Fr} {h h' : H} {o : Oper} (hd : ∀ b, readDep E τ o = some b → h[b]? = h'[b]?) : readA E τ h o = readA E τ h' o := by
  unfold readDep at hd
  unfold readA
  split
  · rename_i t a ho
    rw [ho] at hd
    simp only at hd
    cases he : ev E τ a with
    | no s => rfl
    | ok p => rw [he] at hd; simp only [R.bind]; exact loadA_dep hd
  · rename_i src dst x ho
    rw [ho] at hd
    simp only at hd
    cases he : ev E τ x with
    | no s => rfl
    | ok p => rw [he] at hd; simp only [R.bind, elemsA_dep hd]
  · rename_i t m k ok ho
    rw [ho] at hd
    simp only at hd
    cases he : ev E τ m with
    | no s => rfl
    | ok p => rw [he] at hd; simp only [R.bind, mapOf_dep hd]
  · rename_i args ats ho
    rw [ho] at hd
    simp only at hd
    cases ha : args.toList with
    | nil => rfl
    | cons x xs =>
      cases xs with
      | nil =>
        rw [ha] at hd
        simp only at hd
        simp only [evs]
        cases he : ev E τ x with
        | no s => rfl
        | ok p => rw [he] at hd; simp only [R.bind, mapOf_dep hd]
      | cons y ys =>
        simp only [evs]
        cases ev E τ x with
        | no s => rfl
        | ok p =>
          simp only [R.bind]
          cases ev E τ y with
          | no s => rfl
          | ok q =>
            simp only
            cases evs E τ ys <;> rfl
  · rfl
theorem sameR_eq {x y : R AV} (h : sameR x y = true) : x = y := by
  cases x <;> cases y <;> simp [sameR] at h
  rw [same_eq _ _ h]

theorem newSl_alive {dst : Option Nat} {id sz : Nat} {l : List AV} : (newSl E f dst id sz l).2.alive = true := by
  unfold newSl
  split <;> rfl

theorem allocA_alive {τ : Fr} {id : Nat} {o : Oper} {v : AV} {b : Blk} (h : allocA E f τ id o = .ok (v, b)) : b.alive = true := by
  unfold allocA at h
  split at h
  · obtain ⟨z, hz, h⟩ := R.bind_ok h; cases h; rfl
  · obtain ⟨z, hz, h⟩ := R.bind_ok h; split at h <;> cases h; rfl
  · obtain ⟨vs, hvs, h⟩ := R.bind_ok h
    obtain ⟨d, hd, h⟩ := R.bind_ok h
    split at h
    · obtain ⟨sz, hsz, h⟩ := R.bind_ok h
      obtain ⟨z, hz, h⟩ := R.bind_ok h
      split at h
      · obtain ⟨l, hl, h⟩ := R.bind_ok h
        have h := R.ok.inj h
        have := congrArg Prod.snd h
        simp only at this
        rw [← this]; exact newSl_alive
      · cases h
    · cases h
  · cases h; rfl
  · obtain ⟨d, hd, h⟩ := R.bind_ok h
    split at h
    · obtain ⟨i, hi, h⟩ := R.bind_ok h
      obtain ⟨z, hz, h⟩ := R.bind_ok h
      obtain ⟨l, hl, h⟩ := R.bind_ok h
      obtain ⟨c, hc, h⟩ := R.bind_ok h
      obtain ⟨n, hn, h⟩ := R.bind_ok h
      obtain ⟨m, hm, h⟩ := R.bind_ok h
      split at h
      · have h := R.ok.inj h
        have := congrArg Prod.snd h
        simp only at this
        rw [← this]; exact newSl_alive
      · cases h
    · cases h
  · obtain ⟨u, hu, h⟩ := R.bind_ok h
    obtain ⟨us, hus, h⟩ := R.bind_ok h
    obtain ⟨ud, hud, h⟩ := R.bind_ok h
    split at h
    · obtain ⟨ue, hue, h⟩ := R.bind_ok h
      split at h
      · obtain ⟨sz, hsz, h⟩ := R.bind_ok h
        split at h
        · have h := R.ok.inj h
          have := congrArg Prod.snd h
          simp only at this
          rw [← this]; exact newSl_alive
        · cases h
      · cases h
    · cases h
  · cases h

theorem ea_congr {D : Nat → Prop} {ρ ρ' : Rho} (h : ∀ i, D i → ρ' (idAt E ops base i) = ρ (idAt E ops base i)) : EA E ops base D ρ' = EA E ops base D ρ := by
  funext B off
  apply propext
  constructor <;> rintro ⟨i, k, h1, h2, h3⟩
  · exact ⟨i, k, h1, by rw [← h i h1]; exact h2, h3⟩
  · exact ⟨i, k, h1, by rw [h i h1]; exact h2, h3⟩

variable {A : Area} {listed : Array Bool} {ρ0 ρ : Rho} {w0 w : World} {a : Act} {p : Nat}

/-- the areas of memory set aside, with and without one. -/
theorem area_one {D D' : Nat → Prop} {i0 B k : Nat} (hD : ∀ i, D i ↔ (D' i ∨ i = i0)) (hρ : ρ (idAt E ops base i0) = some (B, k)) : ∀ B' off, Plus A (EA E ops base D ρ) B' off ↔ (Plus A (EA E ops base D' ρ) B' off ∨ (B' = B ∧ k ≤ off)) := by
  intro B' off
  constructor
  · rintro (h | ⟨i, k', h1, h2, h3⟩)
    · exact .inl (.inl h)
    · rcases (hD i).1 h1 with h | rfl
      · exact .inl (.inr ⟨i, k', h, h2, h3⟩)
      · rw [hρ] at h2; cases h2; exact .inr ⟨rfl, h3⟩
  · rintro ((h | ⟨i, k', h1, h2, h3⟩) | ⟨rfl, h⟩)
    · exact .inl h
    · exact .inr ⟨i, k', (hD i).2 (.inl h1), h2, h3⟩
    · exact .inr ⟨i0, k, (hD i0).2 (.inr rfl), hρ, h⟩

/-- one more of those set aside is counted in. -/
theorem Inv.show1 (hI : Inv E f N s0 ops base T Hh A listed ρ0 w0 ρ w a p) {K : H} {D : Nat → Prop} (hDE : ∀ i, D i → Early E ops T listed p i) {i0 : Nat} (hi0 : Early E ops T listed p i0) (hD0 : ¬ D i0)
    (hr : HR E.G (Plus A (EA E ops base (fun i => D i ∨ i = i0) ρ)) ρ w (view K)) (hF : Forb (Plus A (EA E ops base (fun i => D i ∨ i = i0) ρ)) ρ (view K) = Forb (Plus A (EA E ops base (Early E ops T listed p) ρ)) ρ (view (Hh p)))
    (hg : K[idAt E ops base i0]? = some .hole) {v : AV} {x : Blk} (hx : allocA E f (T i0) (idAt E ops base i0) (opAt ops i0) = .ok (v, x)) :
    HR E.G (Plus A (EA E ops base D ρ)) ρ w (view (K.set (idAt E ops base i0) x)) ∧ Forb (Plus A (EA E ops base D ρ)) ρ (view (K.set (idAt E ops base i0) x)) = Forb (Plus A (EA E ops base (Early E ops T listed p) ρ)) ρ (view (Hh p)) := by
  obtain ⟨B, k, v', x', h1, h2, h3, h4, h5, h6⟩ := hI.early i0 hi0
  rw [hx] at h2
  cases h2
  obtain ⟨q1, q2⟩ := hr.shown (A := Plus A (EA E ops base D ρ)) h1 h3 h4 hg (by rw [hF]; exact h5) (area_one (fun i => Iff.rfl) h1)
    (fun off _ ha => by
      rcases ha with ha | ⟨i, k', e1, e2, _⟩
      · exact h6 off ha
      · have := hI.sep i0 _ B k k' hi0 h1 e2
        have hne : i ≠ i0 := fun e => hD0 (e ▸ e1)
        have he := hDE i e1
        exact idAt_ne hne he.2.1 hi0.2.1 he.2.2.1 hi0.2.2.1 this)
    (fun b' k' hb' => hI.sep i0 b' B k k' hi0 h1 hb')
  rw [view_set hg]
  exact ⟨q1, q2.trans hF⟩

/-- the memory with all that is there. -/
theorem Inv.all (hR : Run E f call N ops base T Hh) (hI : Inv E f N s0 ops base T Hh A listed ρ0 w0 ρ w a p) : ∀ n, n ≤ ops.size → ∃ K : H, HR E.G (Plus A (EA E ops base (fun i => Early E ops T listed p i ∧ n ≤ i) ρ)) ρ w (view K) ∧
    Forb (Plus A (EA E ops base (fun i => Early E ops T listed p i ∧ n ≤ i) ρ)) ρ (view K) = Forb (Plus A (EA E ops base (Early E ops T listed p) ρ)) ρ (view (Hh p)) ∧
    (∀ i, Early E ops T listed p i → i < n → ∃ v x, allocA E f (T i) (idAt E ops base i) (opAt ops i) = .ok (v, x) ∧ K[idAt E ops base i]? = some x) ∧
    (∀ b, (∀ i, Early E ops T listed p i → i < n → b ≠ idAt E ops base i) → K[b]? = (Hh p)[b]?) := by
  intro n
  induction n with
  | zero =>
    intro _
    have he : (fun i => Early E ops T listed p i ∧ 0 ≤ i) = Early E ops T listed p := funext fun i => propext ⟨fun h => h.1, fun h => ⟨h, Nat.zero_le _⟩⟩
    exact ⟨Hh p, by rw [he]; exact hI.hr, by rw [he], fun i _ h => by omega, fun b _ => rfl⟩
  | succ n ih =>
    intro hn
    obtain ⟨K, k1, k2, k3, k4⟩ := ih (by omega)
    by_cases hE : Early E ops T listed p n
    · have he : (fun i => Early E ops T listed p i ∧ n ≤ i) = fun i => (Early E ops T listed p i ∧ n + 1 ≤ i) ∨ i = n := funext fun i => propext ⟨fun h => by
          rcases Nat.lt_or_ge n i with h' | h'
          · exact .inl ⟨h.1, h'⟩
          · exact .inr (by omega), fun h => by
          rcases h with h | rfl
          · exact ⟨h.1, by omega⟩
          · exact ⟨hE, Nat.le_refl _⟩⟩
      rw [he] at k1 k2
      have hg : K[idAt E ops base n]? = some .hole := by
        rw [k4 _ (fun i hi hin => fun e => idAt_ne (Nat.ne_of_lt hin) hi.2.1 hE.2.1 hi.2.2.1 hE.2.2.1 e.symm)]
        exact hR.kept n p hE.2.1 hE.2.2.1 hE.1
      obtain ⟨B, k, v, x, e1, e2, _⟩ := hI.early n hE
      obtain ⟨q1, q2⟩ := hI.show1 (fun i h => h.1) hE (fun h => by omega) k1 k2 hg e2
      refine ⟨K.set (idAt E ops base n) x, q1, q2, fun i hi hin => ?_, fun b hb => ?_⟩
      · by_cases hi' : i = n
        · subst hi'
          exact ⟨v, x, e2, by rw [List.getElem?_set_self (lt_of_getl hg)]⟩
        · obtain ⟨v', x', f1, f2⟩ := k3 i hi (by omega)
          refine ⟨v', x', f1, ?_⟩
          rw [List.getElem?_set_ne (fun e => idAt_ne hi' hi.2.1 hE.2.1 hi.2.2.1 hE.2.2.1 e.symm)]
          exact f2
      · rw [List.getElem?_set_ne (fun e => hb n hE (by omega) e.symm)]
        exact k4 b (fun i hi hin => hb i hi (by omega))
    · have he : (fun i => Early E ops T listed p i ∧ n + 1 ≤ i) = fun i => Early E ops T listed p i ∧ n ≤ i := funext fun i => propext ⟨fun h => ⟨h.1, by omega⟩, fun h => ⟨h.1, by
          rcases Nat.lt_or_ge n i with h' | h'
          · exact h'
          · have : i = n := by omega
            subst this; exact absurd h.1 hE⟩⟩
      rw [← he] at k1 k2
      refine ⟨K, k1, k2, fun i hi hin => ?_, fun b hb => k4 b (fun i hi hin => hb i hi (by omega))⟩
      by_cases hi' : i = n
      · subst hi'; exact absurd hi hE
      · exact k3 i hi (by omega)

theorem early_lt {i : Nat} (h : Early E ops T listed p i) : i < ops.size := h.2.1

/-- the place goes over an operation that is done, or that makes and writes nothing. -/
theorem Inv.adv (hR : Run E f call N ops base T Hh) (hI : Inv E f N s0 ops base T Hh A listed ρ0 w0 ρ w a p) (hp : p < ops.size) (h : isO E (opAt ops p) = false ∨ (isAl E (opAt ops p) = true ∧ Done listed p)) : Inv E f N s0 ops base T Hh A listed ρ0 w0 ρ w a (p + 1) := by
  have hch : ∀ i, i < ops.size → isO E (opAt ops i) = true → isAl E (opAt ops i) = false → (Done listed i ↔ i < p + 1) := fun i hi ho ha => by
    rw [hI.chain i hi ho ha]
    constructor
    · omega
    · intro h1
      rcases Nat.lt_or_ge i p with h2 | h2
      · exact h2
      · have : i = p := by omega
        subst this
        rcases h with h | h
        · rw [ho] at h; cases h
        · rw [ha] at h; cases h.1
  have hal : ∀ i, i < p + 1 → isAl E (opAt ops i) = true → Done listed i := fun i hi ha => by
    rcases Nat.lt_or_ge i p with h2 | h2
    · exact hI.als i h2 ha
    · have : i = p := by omega
      subst this
      rcases h with h | h
      · rw [isO_isAl h] at ha; cases ha
      · exact h.2
  by_cases hE : Early E ops T listed p p
  · -- it made memory
    obtain ⟨B, k, v, x, e1, e2, e3, e4, e5, e6⟩ := hI.early p hE
    have hH : Hh (p + 1) = (Hh p).set (idAt E ops base p) x := by
      rcases stepD_al (hR.step p hp) hE.2.2.1 with ⟨_, _, v', b', h1, h2, _⟩ | ⟨hw, _⟩
      · rw [e2] at h1; cases h1; exact h2
      · rw [hE.2.2.2.2] at hw; cases hw
    have hEq : ∀ i, Early E ops T listed p i ↔ (Early E ops T listed (p + 1) i ∨ i = p) := fun i => ⟨fun h => by
        rcases Nat.lt_or_ge p i with h1 | h1
        · exact .inl ⟨h1, h.2⟩
        · exact .inr (by have := h.1; omega), fun h => by
        rcases h with h | rfl
        · exact ⟨by have := h.1; omega, h.2⟩
        · exact hE⟩
    have hEf : Early E ops T listed p = fun i => Early E ops T listed (p + 1) i ∨ i = p := funext fun i => propext (hEq i)
    have hle : ∀ i, Early E ops T listed (p + 1) i → Early E ops T listed p i := fun i hi => (hEq i).2 (.inl hi)
    have hg := hR.kept p p hp hE.2.2.1 (Nat.le_refl p)
    obtain ⟨q1, q2⟩ := hI.show1 (D := Early E ops T listed (p + 1)) hle hE (fun h => by have := h.1; omega) (by rw [← hEf]; exact hI.hr) (by rw [← hEf]) hg e2
    rw [← hH] at q1 q2
    have hO : Plus (Own ρ (view (Hh (p + 1)))) (EA E ops base (Early E ops T listed (p + 1)) ρ) = Plus (Own ρ (view (Hh p))) (EA E ops base (Early E ops T listed p) ρ) := by
      funext B' off
      apply propext
      have hg' : view (Hh p) (idAt E ops base p) = some .hole := hg
      constructor
      · rintro (⟨b, k', y, h1, h2, h3, h4⟩ | ⟨i, k', h1, h2, h3⟩)
        · rw [hH, view_set hg] at h2
          simp only [setG] at h2
          split at h2
          · rename_i hb; subst hb; exact .inr ⟨p, k', hE, h1, h4⟩
          · exact .inl ⟨b, k', y, h1, h2, h3, h4⟩
        · exact .inr ⟨i, k', hle i h1, h2, h3⟩
      · rintro (⟨b, k', y, h1, h2, h3, h4⟩ | ⟨i, k', h1, h2, h3⟩)
        · refine .inl ⟨b, k', y, h1, ?_, h3, h4⟩
          rw [hH, view_set hg]
          simp only [setG]
          split
          · rename_i hb; rw [hb, hg'] at h2; cases h2; cases h3
          · exact h2
        · rcases (hEq i).1 h1 with h | rfl
          · exact .inr ⟨i, k', h, h2, h3⟩
          · refine .inl ⟨_, k', x, h2, ?_, e3, h3⟩
            rw [hH, view_set hg]; simp [setG]
    refine ⟨hI.size, hI.closed, hp, hch, hal, q1, fun i hi his hia hne => hI.nyet i (by omega) his hia (fun h => ?_), fun i hi => ?_, fun i b B' k' k1 hi => hI.sep i b B' k' k1 (hle i hi), by rw [hO]; exact hI.ext, by rw [q2]; exact hI.slots, hI.sz, by rw [hO]; exact hI.de⟩
    · rcases (hEq i).1 h with h' | h'
      · exact hne h'
      · omega
    · obtain ⟨B', k', v', x', f1, f2, f3, f4, f5, f6⟩ := hI.early i (hle i hi)
      exact ⟨B', k', v', x', f1, f2, f3, f4, by rw [q2]; exact f5, f6⟩
  · -- it made nothing
    have hEq : Early E ops T listed (p + 1) = Early E ops T listed p := funext fun i => propext ⟨fun h => ⟨by have := h.1; omega, h.2⟩, fun h => ⟨by
        rcases Nat.lt_or_ge p i with h1 | h1
        · exact h1
        · have : i = p := by have := h.1; omega
          subst this; exact absurd h hE, h.2⟩⟩
    have hH : Hh (p + 1) = Hh p := by
      rcases h with h | ⟨h1, h2⟩
      · exact hR.quiet hp h
      · rcases stepD_al (hR.step p hp) h1 with ⟨hw, _⟩ | ⟨_, h3, _⟩
        · exact absurd ⟨Nat.le_refl p, hp, h1, h2, hw⟩ hE
        · exact h3
    exact ⟨hI.size, hI.closed, hp, hch, hal, by rw [hEq, hH]; exact hI.hr, fun i hi his hia hne => hI.nyet i (by omega) his hia (by rw [← hEq]; exact hne), by rw [hEq, hH]; exact hI.early, by rw [hEq]; exact hI.sep, by rw [hEq, hH]; exact hI.ext, by rw [hEq, hH]; exact hI.slots, hI.sz, by rw [hEq, hH]; exact hI.de⟩

theorem Inv.advTo (hR : Run E f call N ops base T Hh) : ∀ {q : Nat}, q ≤ ops.size → p ≤ q → Inv E f N s0 ops base T Hh A listed ρ0 w0 ρ w a p → (∀ i, p ≤ i → i < q → isO E (opAt ops i) = false ∨ (isAl E (opAt ops i) = true ∧ Done listed i)) → Inv E f N s0 ops base T Hh A listed ρ0 w0 ρ w a q := by
  intro q
  induction q with
  | zero => intro _ hpq hI _; obtain rfl : p = 0 := by omega
            exact hI
  | succ q ih =>
    intro hq hpq hI h
    by_cases he : p = q + 1
    · rw [← he]; exact hI
    · exact (ih (by omega) (by omega) hI (fun i h1 h2 => h i h1 (by omega))).adv hR (by omega) (h q (by omega) (by omega))

/-- the parts that a step of the rest leaves alone. -/
theorem Inv.carry (hR : Run E f call N ops base T Hh) (hI : Inv E f N s0 ops base T Hh A listed ρ0 w0 ρ w a p) {listed' : Array Bool} {p' : Nat} (hpp : p ≤ p') (hp' : p' ≤ ops.size) (hE : Early E ops T listed' p' = Early E ops T listed p) {ρ' : Rho} {w' : World}
    (hx : Ext (Own ρ (view (Hh p))) ρ w (Own ρ' (view (Hh p'))) ρ' w') (hr : HR E.G (Plus A (EA E ops base (Early E ops T listed p) ρ)) ρ' w' (view (Hh p')))
    (hsz : listed'.size = ops.size) (hcl : Closed ops (Done listed')) (hch : ∀ i, i < ops.size → isO E (opAt ops i) = true → isAl E (opAt ops i) = false → (Done listed' i ↔ i < p')) (hal : ∀ i, i < p' → isAl E (opAt ops i) = true → Done listed' i) {a' : Act}
    (hsl : ∀ t q, q ≤ ops.size → (∀ i, i < q → (opAt ops i).dst = some t → Done listed' i) → (∀ i, q ≤ i → i < ops.size → (opAt ops i).dst = some t → ¬ Done listed' i) →
      TR (Forb (Plus A (EA E ops base (Early E ops T listed p) ρ)) ρ' (view (Hh p'))) ρ' w' (a'.tmps.getD t Go.undef) (T q t)) (hN : a'.tmps.size = N) (hde : a'.defers = a.defers) :
    Inv E f N s0 ops base T Hh A listed' ρ0 w0 ρ' w' a' p' := by
  have hsome : ∀ i, Early E ops T listed p i → ρ' (idAt E ops base i) = ρ (idAt E ops base i) := fun i hi => by
    obtain ⟨B, k, v, x, e1, _⟩ := hI.early i hi
    rw [e1, hx.sub _ _ e1]
  have hEA := ea_congr (E := E) (ops := ops) (base := base) hsome
  have hap : ∀ i, Early E ops T listed p i → ∀ B k, ρ (idAt E ops base i) = some (B, k) → ∀ off, ¬ Own ρ (view (Hh p)) B off := fun i hi B k hb => hI.hr.apart (k := k) (fun off h => .inr ⟨i, k, hi, hb, h⟩)
  have hxt : Ext (Plus (Own ρ (view (Hh p))) (EA E ops base (Early E ops T listed p) ρ)) ρ w (Plus (Own ρ' (view (Hh p'))) (EA E ops base (Early E ops T listed p) ρ)) ρ' w' := hx.widen (fun B off h => .inl h) (fun B off h => by
    rcases h with h | h
    · rcases hx.new B off h with h' | h'
      · exact .inl (.inl h')
      · exact .inr h'
    · exact .inl (.inr h))
  refine ⟨hsz, hcl, hp', hch, hal, by rw [hE, hEA]; exact hr, fun i hi his hia hne => ?_, fun i hi => ?_, fun i b B k k1 hi h1 h2 => ?_, ?_, by rw [hE, hEA]; exact hsl, hN, by rw [hde, hE, hEA]; exact hI.de.ext hxt⟩
  · have h0 := hI.nyet i (by omega) his hia (by rw [← hE]; exact hne)
    cases hρ : ρ' (idAt E ops base i) with
    | none => rfl
    | some z =>
      obtain ⟨B, k⟩ := z
      have h1 := hr.hole _ (hR.kept i p' his hia hi) B k hρ
      have h2 := hI.hr.avo B k h1
      rcases hx.newρ _ B k hρ with h3 | h3 | h3
      · rw [h0] at h3; cases h3
      · exact absurd h3 h2.2
      · omega
  · rw [hE] at hi
    obtain ⟨B, k, v, x, e1, e2, e3, e4, e5, e6⟩ := hI.early i hi
    refine ⟨B, k, v, x, hx.sub _ _ e1, e2, e3, Nat.lt_of_lt_of_le e4 hx.size, ?_, e6⟩
    rw [hE, hEA]
    exact e5.mono hx.sub hx.keeps (hx.keepo B e4 (hap i hi B k e1))
  · rw [hE] at hi
    rw [hsome i hi] at h1
    rcases hx.newρ b B k1 h2 with h3 | h3 | h3
    · exact hI.sep i b B k k1 hi h1 h3
    · exact absurd h3 (hap i hi B k h1 k1)
    · have := hI.hr.lt h1; omega
  · rw [hE, hEA]; exact hI.ext.trans hxt
end
end Go.Proofs.YthfkkflogbibfaaGreatDoor.AM
