/- The abstract machine: memory that is new, written, or appended to. -/
import Derived.Test.YthfkkflogbibfaaGreatDoorA8
namespace Go.Proofs.YthfkkflogbibfaaGreatDoor.AM
set_option linter.unusedSectionVars false
set_option linter.unusedVariables false
set_option linter.unusedSimpArgs false

def setR (ρ : Rho) (id : Nat) (p : Nat × Nat) : Rho := fun b => if b = id then some p else ρ b
def setG (g : View) (id : Nat) (x : Blk) : View := fun b => if b = id then some x else g b
def view (h : H) : View := fun b => h[b]?
theorem view_append (h : H) (x : Blk) : view (h ++ [x]) = setG (view h) h.length x := by
  funext b
  simp only [view, setG]
  by_cases hb : b = h.length
  · subst hb; simp
  · rw [if_neg hb]
    rcases Nat.lt_or_ge b h.length with h1 | h1
    · rw [List.getElem?_append_left h1]
    · rw [List.getElem?_eq_none (by simp; omega), List.getElem?_eq_none h1]
theorem view_set {h : H} {b : Nat} {y : Blk} (hb : h[b]? = some y) (x : Blk) : view (h.set b x) = setG (view h) b x := by
  funext c
  simp only [view, setG]
  rw [List.getElem?_set]
  by_cases hc : c = b
  · subst hc; simp [lt_of_getl hb]
  · rw [if_neg hc, if_neg (fun e => hc e.symm)]
theorem view_length (h : H) : view h h.length = none := by simp [view]

section
variable {G : Nat → Option (List AV)} {A : Area} {ρ : Rho} {w w' : World} {g : View}

theorem HR.lt (hr : HR G A ρ w g) {b B k : Nat} (h : ρ b = some (B, k)) : B < w.heap.size := by
  cases hg : g b with
  | none => rw [hr.dom b hg] at h; cases h
  | some x =>
    by_cases hx : x = .hole
    · rw [hx] at hg; exact (hr.avo B k (hr.hole b hg B k h)).1
    · obtain ⟨B', k', h1, h2, _⟩ := hr.blk b x hg hx; rw [h] at h1; cases h1; exact h2
theorem HR.glob' {E : Env} (hr : HR E.G A ρ w g) : Glob E (Forb A ρ g) ρ w := hr.glob

theorem HR.alloc (hr : HR G A ρ w g) {id : Nat} (hid : ρ id = none) {obj : Obj} (hw : w'.heap = w.heap.push obj) (hst : SameS w w') (k : Nat) (x : Blk) (hxh : x ≠ .hole := by nofun) :
    Ext (Own ρ g) ρ w (Own (setR ρ id (w.heap.size, k)) (setG g id x)) (setR ρ id (w.heap.size, k)) w' ∧
    (BR (Forb A (setR ρ id (w.heap.size, k)) (setG g id x)) (setR ρ id (w.heap.size, k)) w' w.heap.size k x → HR G A (setR ρ id (w.heap.size, k)) w' (setG g id x)) := by
  have hne : ∀ b p, ρ b = some p → b ≠ id := fun b p hb he => by rw [he, hid] at hb; cases hb
  obtain ⟨h1, h2⟩ := hr.upd (ρ' := setR ρ id (w.heap.size, k)) (w' := w') (g' := setG g id x) w.heap.size hst
    (fun b p hb => by simp [setR, hne b p hb, hb])
    (fun B hB _ => by rw [hw]; simp [Array.getElem?_push, Nat.ne_of_lt hB])
    (fun cs e fz hb => by have := lt_of_get hb; omega)
    (fun h => by omega) (by rw [hw]; simp)
    (fun B off ⟨b, k', y, hb, hy, hal, hk⟩ => by
      simp only [setR, setG] at hb hy
      split at hb
      · cases hb; exact .inr (Nat.le_refl _)
      · rename_i hbi; rw [if_neg hbi] at hy; exact .inl ⟨b, k', y, hb, hy, hal, hk⟩)
    (fun b B k' hb => by
      simp only [setR] at hb
      split at hb
      · cases hb; exact .inr (.inr (Nat.le_refl _))
      · exact .inl hb)
  refine ⟨h1, fun hbr => h2 (fun b hb => ?_) (fun b y hb => ?_) (fun b b' B k1 k2 y y' hb hb' hy hy' hal hal' => ?_) (fun b hb => ?_)⟩
  · simp only [setG, setR] at hb ⊢
    split at hb
    · cases hb
    · rename_i hbi; rw [if_neg hbi]; exact hr.dom b hb
  · simp only [setG] at hb
    split at hb
    · rename_i hbi
      cases hb
      exact .inr ⟨w.heap.size, k, by simp [setR, hbi], by rw [hw]; simp, hbr⟩
    · exact .inl ⟨hb, fun _ B k' hB => Nat.ne_of_lt (hr.lt hB)⟩
  · simp only [setR, setG] at hb hb' hy hy'
    by_cases h1 : b = id <;> by_cases h2 : b' = id
    · rw [h1, h2]
    · rw [if_pos h1] at hb; rw [if_neg h2] at hb'; cases hb; have := hr.lt hb'; omega
    · rw [if_neg h1] at hb; rw [if_pos h2] at hb'; cases hb'; have := hr.lt hb; omega
    · rw [if_neg h1] at hb hy; rw [if_neg h2] at hb' hy'; exact hr.sep b b' B k1 k2 y y' hb hb' hy hy' hal hal'
  · simp only [setG] at hb
    split at hb
    · cases hb; exact absurd rfl hxh
    · rename_i hbi; exact ⟨hb, by simp [setR, hbi]⟩

theorem HR.modify (hr : HR G A ρ w g) {b0 B0 : Nat} {x0 : Blk} (hρ : ρ b0 = some (B0, 0)) (hg0 : g b0 = some x0) (ha0 : x0.alive = true) {obj : Obj} (hw : w'.heap = w.heap.setIfInBounds B0 obj) (hst : SameS w w')
    (hs : ∀ cs e fz, w.heap[B0]? = some (.cells cs e fz) → ∃ cs', obj = .cells cs' e fz ∧ cs'.size = cs.size) (x : Blk) (hxh : x ≠ .hole := by nofun) :
    Ext (Own ρ g) ρ w (Own ρ (setG g b0 x)) ρ w' ∧ (BR (Forb A ρ (setG g b0 x)) ρ w' B0 0 x → HR G A ρ w' (setG g b0 x)) := by
  have hlt := hr.lt hρ
  obtain ⟨h1, h2⟩ := hr.upd (ρ' := ρ) (w' := w') (g' := setG g b0 x) B0 hst
    (fun b p hb => hb)
    (fun B hB hne => by rw [hw, Array.getElem?_setIfInBounds_ne (fun e => hne e.symm)])
    (fun cs e fz hb => by
      obtain ⟨cs', h1, h2⟩ := hs cs e fz hb
      refine ⟨cs', by rw [hw, h1]; simp [Array.getElem?_setIfInBounds_self, hlt], h2, fun off _ ho => absurd ⟨b0, 0, x0, hρ, hg0, ha0, Nat.zero_le _⟩ ho⟩)
    (fun h => .inl ⟨0, b0, 0, x0, hρ, hg0, ha0, Nat.le_refl _⟩) (by rw [hw]; simp)
    (fun B off ⟨b, k', y, hb, hy, hal, hk⟩ => by
      simp only [setG] at hy
      split at hy
      · rename_i hbi; subst hbi; rw [hρ] at hb; cases hb; exact .inl ⟨b, 0, x0, hρ, hg0, ha0, Nat.zero_le _⟩
      · exact .inl ⟨b, k', y, hb, hy, hal, hk⟩)
    (fun b B k' hb => .inl hb)
  refine ⟨h1, fun hbr => h2 (fun b hb => ?_) (fun b y hb => ?_) (fun b b' B k1 k2 y y' hb hb' hy hy' hal hal' => ?_) (fun b hb => by
    simp only [setG] at hb
    split at hb
    · cases hb; exact absurd rfl hxh
    · exact ⟨hb, rfl⟩)⟩
  · simp only [setG] at hb
    split at hb
    · cases hb
    · exact hr.dom b hb
  · simp only [setG] at hb
    split at hb
    · rename_i hbi
      cases hb
      exact .inr ⟨B0, 0, by rw [hbi]; exact hρ, by rw [hw]; simpa using hlt, hbr⟩
    · rename_i hbi
      exact .inl ⟨hb, fun hal B k' hB he => hbi (hr.sep b b0 B k' 0 y x0 hB (by rw [he]; exact hρ) hb hg0 hal ha0)⟩
  · simp only [setG] at hy hy'
    have fix : ∀ {c z}, (if c = b0 then some x else g c) = some z → z.alive = true → ∃ z', g c = some z' ∧ z'.alive = true := by
      intro c z hz hzal
      split at hz
      · rename_i hc; exact ⟨x0, by rw [hc]; exact hg0, ha0⟩
      · exact ⟨z, hz, hzal⟩
    obtain ⟨z, hz, hza⟩ := fix hy hal
    obtain ⟨z', hz', hza'⟩ := fix hy' hal'
    exact hr.sep b b' B k1 k2 z z' hb hb' hz hz' hza hza'

theorem HR.kill (hr : HR G A ρ w g) {b0 : Nat} {x0 : Blk} (hg0 : g b0 = some x0) (hx0 : x0 ≠ .hole := by nofun) :
    Ext (Own ρ g) ρ w (Own ρ (setG g b0 .dead)) ρ w ∧ HR G A ρ w (setG g b0 .dead) := by
  obtain ⟨h1, h2⟩ := hr.upd (ρ' := ρ) (w' := w) (g' := setG g b0 .dead) w.heap.size (SameS.refl w)
    (fun b p hb => hb) (fun B hB hne => rfl) (fun cs e fz hb => by have := lt_of_get hb; omega) (fun h => by omega) (Nat.le_refl _)
    (fun B off ⟨b, k', y, hb, hy, hal, hk⟩ => by
      simp only [setG] at hy
      split at hy
      · cases hy; cases hal
      · exact .inl ⟨b, k', y, hb, hy, hal, hk⟩)
    (fun b B k' hb => .inl hb)
  refine ⟨h1, h2 (fun b hb => ?_) (fun b y hb => ?_) (fun b b' B k1 k2 y y' hb hb' hy hy' hal hal' => ?_) (fun b hb => by
    simp only [setG] at hb
    split at hb
    · cases hb
    · exact ⟨hb, rfl⟩)⟩
  · simp only [setG] at hb
    split at hb
    · cases hb
    · exact hr.dom b hb
  · simp only [setG] at hb
    split at hb
    · rename_i hbi
      cases hb
      obtain ⟨B, k, hB, hlt, _⟩ := hr.blk b0 x0 hg0 hx0
      exact .inr ⟨B, k, by rw [hbi]; exact hB, hlt, trivial⟩
    · exact .inl ⟨hb, fun hal B k' hB => Nat.ne_of_lt (hr.lt hB)⟩
  · simp only [setG] at hy hy'
    split at hy
    · cases hy; cases hal
    · split at hy'
      · cases hy'; cases hal'
      · exact hr.sep b b' B k1 k2 y y' hb hb' hy hy' hal hal'

/-- appended in place: the block b0 is spent, the block id has what is behind. -/
theorem HR.onto (hr : HR G A ρ w g) {b0 B0 k0 id k : Nat} {x0 : Blk} (hρ : ρ b0 = some (B0, k0)) (hg0 : g b0 = some x0) (ha0 : x0.alive = true) (hid : g id = none) (hk : k0 ≤ k) {cs cs' : Array Value} {e : TypeId} {fz : Nat × Nat}
    (hb : w.heap[B0]? = some (.cells cs e fz)) (hw : w'.heap = w.heap.setIfInBounds B0 (.cells cs' e fz)) (hst : SameS w w') (hs : cs'.size = cs.size) (hsame : ∀ off, off < k0 → cs'[off]? = cs[off]?) (x : Blk) (hxh : x ≠ .hole := by nofun) :
    Ext (Own ρ g) ρ w (Own (setR ρ id (B0, k)) (setG (setG g b0 .dead) id x)) (setR ρ id (B0, k)) w' ∧
    (BR (Forb A (setR ρ id (B0, k)) (setG (setG g b0 .dead) id x)) (setR ρ id (B0, k)) w' B0 k x → HR G A (setR ρ id (B0, k)) w' (setG (setG g b0 .dead) id x)) := by
  have hlt := hr.lt hρ
  have hne : ∀ b p, ρ b = some p → b ≠ id := fun b p hb he => by rw [he, hr.dom id hid] at hb; cases hb
  have hb0 : b0 ≠ id := hne _ _ hρ
  obtain ⟨h1, h2⟩ := hr.upd (ρ' := setR ρ id (B0, k)) (w' := w') (g' := setG (setG g b0 .dead) id x) B0 hst
    (fun b p hb => by simp [setR, hne b p hb, hb])
    (fun B hB hne => by rw [hw, Array.getElem?_setIfInBounds_ne (fun e => hne e.symm)])
    (fun cs1 e1 fz1 hb1 => by
      rw [hb] at hb1; cases hb1
      refine ⟨cs', by rw [hw]; simp [Array.getElem?_setIfInBounds_self, hlt], hs, fun off _ ho => hsame off ?_⟩
      rcases Nat.lt_or_ge off k0 with h | h
      · exact h
      · exact absurd ⟨b0, k0, x0, hρ, hg0, ha0, h⟩ ho)
    (fun h => .inl ⟨k0, b0, k0, x0, hρ, hg0, ha0, Nat.le_refl _⟩) (by rw [hw]; simp)
    (fun B off ⟨b, k', y, hb, hy, hal, hk'⟩ => by
      simp only [setR, setG] at hb hy
      by_cases h1 : b = id
      · rw [if_pos h1] at hb; cases hb; exact .inl ⟨b0, k0, x0, hρ, hg0, ha0, by omega⟩
      · rw [if_neg h1] at hb hy
        split at hy
        · cases hy; cases hal
        · exact .inl ⟨b, k', y, hb, hy, hal, hk'⟩)
    (fun b B k' hb => by
      simp only [setR] at hb
      split at hb
      · cases hb; exact .inr (.inl ⟨b0, k0, x0, hρ, hg0, ha0, hk⟩)
      · exact .inl hb)
  refine ⟨h1, fun hbr => h2 (fun b hb => ?_) (fun b y hb => ?_) (fun b b' B k1 k2 y y' hb hb' hy hy' hal hal' => ?_) (fun b hb => by
    simp only [setG] at hb
    split at hb
    · cases hb; exact absurd rfl hxh
    · rename_i hbi
      split at hb
      · cases hb
      · exact ⟨hb, by simp [setR, hbi]⟩)⟩
  · simp only [setG, setR] at hb ⊢
    split at hb
    · cases hb
    · rename_i hbi
      rw [if_neg hbi]
      split at hb
      · cases hb
      · exact hr.dom b hb
  · simp only [setG] at hb
    split at hb
    · rename_i hbi
      cases hb
      exact .inr ⟨B0, k, by simp [setR, hbi], by rw [hw]; simpa using hlt, hbr⟩
    · rename_i hbi
      split at hb
      · rename_i hbb
        cases hb
        exact .inr ⟨B0, k0, by simp [setR, hbi]; rw [hbb]; exact hρ, by rw [hw]; simpa using hlt, trivial⟩
      · rename_i hbb
        exact .inl ⟨hb, fun hal B k' hB he => hbb (hr.sep b b0 B k' k0 y x0 hB (by rw [he]; exact hρ) hb hg0 hal ha0)⟩
  · simp only [setR, setG] at hb hb' hy hy'
    have fix : ∀ {c z p}, c ≠ id → (if c = id then some x else if c = b0 then some .dead else g c) = some z → z.alive = true → (if c = id then some (B0, k) else ρ c) = some p → g c = some z ∧ c ≠ b0 ∧ ρ c = some p := by
      intro c z p hc hz hzal hp
      rw [if_neg hc] at hz hp
      split at hz
      · cases hz; cases hzal
      · rename_i hcb; exact ⟨hz, hcb, hp⟩
    by_cases h1 : b = id <;> by_cases h2 : b' = id
    · rw [h1, h2]
    · obtain ⟨hz, hcb, hp⟩ := fix h2 hy' hal' hb'
      rw [if_pos h1] at hb; cases hb
      exact absurd (hr.sep b' b0 B0 k2 k0 y' x0 hp hρ hz hg0 hal' ha0) hcb
    · obtain ⟨hz, hcb, hp⟩ := fix h1 hy hal hb
      rw [if_pos h2] at hb'; cases hb'
      exact absurd (hr.sep b b0 B0 k1 k0 y x0 hp hρ hz hg0 hal ha0) hcb
    · obtain ⟨hz, hcb, hp⟩ := fix h1 hy hal hb
      obtain ⟨hz', hcb', hp'⟩ := fix h2 hy' hal' hb'
      exact hr.sep b b' B k1 k2 y y' hp hp' hz hz' hal hal'
end
end Go.Proofs.YthfkkflogbibfaaGreatDoor.AM
