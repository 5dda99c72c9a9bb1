/- Closed runs in pieces: the abstract machine's own answer piece by piece of the code, memory swept in between; trees whose leaves are all true. -/
import Derived.Test.YthfkkflogbibfaaGreatDoorS11
namespace Go.Proofs.YthfkkflogbibfaaGreatDoor.AM
set_option linter.unusedVariables false
set_option linter.unusedSimpArgs false
set_option linter.unusedSectionVars false

def obsR (L : List Nat) (r : R (X × Fr × H)) : R (X × List AV × H) := r.bind fun r => .ok (r.1, L.map r.2.1, r.2.2)
theorem Tri.of_exec {E : Env} (g : Ground E) {n : Nat} {f : FuncId} {N : Nat} {h0 : H} {c : Code} {τ : Fr} {h : H} {L : List Nat} {x : X} {vs : List AV} {h' : H} (hr : obsR L (exec E f (acall E n) N c τ h) = .ok (x, vs, h')) : Tri E N h0 c τ h x (AM.frm (L.zip vs)) h' := by
  obtain ⟨⟨x1, τ1, h1⟩, h2, hr⟩ := R.bind_ok hr
  cases hr
  exact .wk .refl (.of_code (fun A s0 nn rd ρ w a hrd hs => exec_wp g.hS g.hC g.hB (acall_ok g.hS g.hC g.hB g.hmix n) g.hmix c rd nn τ h x1 τ1 h1 ρ w a hrd h2 hs)) (.frm (look_zip τ1 L))

def kapL (κ : List Nat) (K : Nat) (b : Nat) : Nat := match κ[b]? with
  | some c => c
  | none => b + K
/-- memory swept: κ tells of each place kept where it stood. -/
def sweepB (n0 : Nat) (κ : List Nat) (K : Nat) (sl : List (Nat × AV)) (h : H) (sl' : List (Nat × AV)) (h' : H) : Bool :=
  h'.length == κ.length && decide (h.length ≤ κ.length + K) && decide (n0 ≤ κ.length) &&
  ((List.range κ.length).all fun i => (if i < n0 then kapL κ K i == i else decide (n0 ≤ kapL κ K i)) &&
    (match h'[i]? with
     | some .hole => false
     | some x => sameBlk (h[kapL κ K i]?) (some (renB (kapL κ K) x))
     | none => false) &&
    (List.range κ.length).all fun j => i == j || kapL κ K i != kapL κ K j) &&
  sl'.all fun p => isFsl p.2 || (same (look sl p.1) (ren (kapL κ K) p.2) && !isFsl (look sl p.1))
theorem sweep_ok {E : Env} {N : Nat} {h0 : H} (hG : ∀ i cs, E.G i = some cs → noRefs cs = true) {κ : List Nat} {K : Nat} {sl sl' : List (Nat × AV)} {h h' : H} (hb : sweepB h0.length κ K sl h sl' h' = true) : Wk E N h0 (AM.frm sl) h (AM.frm (sl'.filter fun p => !isFsl p.2)) h' := by
  simp only [sweepB, Bool.and_eq_true, beq_iff_eq, decide_eq_true_eq] at hb
  obtain ⟨⟨⟨⟨h1, h2⟩, h3⟩, h4⟩, h5⟩ := hb
  have h4' : ∀ i, i < κ.length → _ := fun i hi => List.all_eq_true.1 h4 i (List.mem_range.2 hi)
  have hout : ∀ b, κ.length ≤ b → kapL κ K b = b + K := fun b hb => by unfold kapL; rw [List.getElem?_eq_none hb]
  refine Wk.ren hG (κ := kapL κ K) ⟨fun b hb => ?_, fun b hb => ?_, fun b hb => by rw [hout b (by omega)]; omega, fun i x hx => ?_, fun i j x y hx hy _ _ hij => ?_, fun i => ?_⟩
  · have := h4' b (by omega)
    simp only [Bool.and_eq_true] at this
    have h6 := this.1.1
    rw [if_pos hb] at h6
    simpa using h6
  · rcases Nat.lt_or_ge b κ.length with hlt | hge
    · have := h4' b hlt
      simp only [Bool.and_eq_true] at this
      have h6 := this.1.1
      rw [if_neg (by omega)] at h6
      simpa using h6
    · rw [hout b hge]; omega
  · have hi : i < κ.length := by rw [← h1]; exact lt_of_getl hx
    have := h4' i hi
    simp only [Bool.and_eq_true] at this
    have h6 := this.1.2
    rw [hx] at h6
    have hx0 : x ≠ .hole := fun e => by subst e; cases h6
    refine ⟨hx0, ?_⟩
    have h7 : sameBlk (h[kapL κ K i]?) (some (renB (kapL κ K) x)) = true := by
      cases x <;> first | exact absurd rfl hx0 | exact h6
    exact ⟨_, sameBlk_eq h7, LeB.refl _⟩
  · have hi : i < κ.length := by rw [← h1]; exact lt_of_getl hx
    have hj : j < κ.length := by rw [← h1]; exact lt_of_getl hy
    have := h4' i hi
    simp only [Bool.and_eq_true] at this
    have h6 := List.all_eq_true.1 this.2 j (List.mem_range.2 hj)
    simp only [Bool.or_eq_true, beq_iff_eq, bne_iff_ne] at h6
    rcases h6 with h6 | h6
    · exact h6
    · exact absurd hij h6
  · rcases look_all (sl'.filter fun p => !isFsl p.2) i with h6 | ⟨p, h6, h7⟩
    · exact .inl h6
    · -- the first one of its slot
      have key : ∀ (l : List (Nat × AV)), (l.all fun p => isFsl p.2 || (same (look sl p.1) (ren (kapL κ K) p.2) && !isFsl (look sl p.1))) = true → look (l.filter fun p => !isFsl p.2) i = top ∨ (look sl i = ren (kapL κ K) (look (l.filter fun p => !isFsl p.2) i) ∧ isFsl (look sl i) = false) := by
        intro l
        induction l with
        | nil => intro _; exact .inl rfl
        | cons q l ih =>
          intro hl
          simp only [List.all_cons, Bool.and_eq_true] at hl
          obtain ⟨j, v⟩ := q
          rw [List.filter_cons]
          cases hv : isFsl v with
          | true => simpa [hv] using ih hl.2
          | false =>
            simp only [hv, Bool.not_false, if_true]
            have hl1 := hl.1
            simp only [hv, Bool.false_or, Bool.and_eq_true, Bool.not_eq_true'] at hl1
            simp only [look]
            split
            · rename_i hij
              rw [Nat.eq_of_beq_eq_true hij]
              exact .inr ⟨same_eq _ _ hl1.1, hl1.2⟩
            · exact ih hl.2
      rcases key sl' h5 with h8 | ⟨h8, h9⟩
      · exact .inl h8
      · refine .inr ⟨?_, fun sz l e => ?_⟩
        · have : Le (look sl i) (ren (kapL κ K) (look (sl'.filter fun p => !isFsl p.2) i)) := by rw [← h8]; exact Le.refl _
          exact this
        · have e' : look sl i = .fsl sz l := e
          rw [e'] at h9; cases h9

/-- all answers are true, whatever the questions' answers. -/
def allTrue : T (AV × H) → Bool
  | .leaf (.bool true, _) => true
  | .br _ t e => allTrue t && allTrue e
  | _ => false
theorem allTrue_ok : ∀ (t : T (AV × H)), allTrue t = true → ∃ h', t.run = .ok (.bool true, h') := by
  intro t
  induction t with
  | leaf p =>
    intro hb
    obtain ⟨v, h⟩ := p
    cases v with
    | bool b => cases b with
      | true => exact ⟨h, rfl⟩
      | false => cases hb
    | _ => cases hb
  | fail => intro hb; cases hb
  | br c t e iht ihe =>
    intro hb
    simp only [allTrue, Bool.and_eq_true] at hb
    cases c with
    | true => exact iht hb.1
    | false => exact ihe hb.2
end Go.Proofs.YthfkkflogbibfaaGreatDoor.AM
