/- The symbolic machine says what the abstract machine says. -/
import Derived.Test.YthfkkflogbibfaaGreatDoorS1
namespace Go.Proofs.YthfkkflogbibfaaGreatDoor.AM
set_option linter.unusedVariables false
set_option linter.unusedSimpArgs false
set_option linter.unusedSectionVars false

theorem T.run_bind {α β : Type} (t : T α) (f : α → T β) : (t.bind f).run = t.run.bind fun a => (f a).run := by
  induction t with
  | leaf a => rfl
  | fail => rfl
  | br c t e iht ihe => cases c with
    | true => exact iht
    | false => exact ihe
theorem T.bind_ok {α β : Type} {t : T α} {f : α → T β} {b : β} (h : (t.bind f).run = .ok b) : ∃ a, t.run = .ok a ∧ (f a).run = .ok b := by
  rw [T.run_bind] at h; exact R.bind_ok h
theorem R.t_ok {α : Type} {r : R α} {a : α} (h : r.t.run = .ok a) : r = .ok a := by
  cases r with
  | ok b => exact h
  | no s => cases h
theorem R.tbind_ok {α β : Type} {r : R α} {f : α → T β} {b : β} (h : (r.t.bind f).run = .ok b) : ∃ a, r = .ok a ∧ (f a).run = .ok b := by
  obtain ⟨a, h1, h2⟩ := T.bind_ok h; exact ⟨a, R.t_ok h1, h2⟩
theorem chk_ok {α : Type} {con : Option Nat} {c : Bool} {t : T α} {a : α} (h : (chk con c t).run = .ok a) : c = true ∧ t.run = .ok a := by
  cases con <;> cases c <;> first | exact ⟨rfl, h⟩ | cases h
theorem brf_ok {α : Type} {c : Bool} {t : T α} {a : α} (h : (T.br c t .fail).run = .ok a) : c = true ∧ t.run = .ok a := by
  cases c <;> first | exact ⟨rfl, h⟩ | cases h
theorem brc_ok {α : Type} {con : Option Nat} {c : Bool} {t e : T α} {a : α} (h : (brc con c t e).run = .ok a) : (c = true ∧ t.run = .ok a) ∨ (c = false ∧ e.run = .ok a) := by
  cases con <;> cases c <;> first | exact .inl ⟨rfl, h⟩ | exact .inr ⟨rfl, h⟩
theorem br_ok {α : Type} {c : Bool} {t e : T α} {a : α} (h : (T.br c t e).run = .ok a) : (c = true ∧ t.run = .ok a) ∨ (c = false ∧ e.run = .ok a) := by
  cases c <;> first | exact .inl ⟨rfl, h⟩ | exact .inr ⟨rfl, h⟩

theorem shape1_eq {P : Program} {t : TypeId} {v : AV} (h : fits1 P t v = true) : shape1 P t v = v := by
  unfold fits1 at h; unfold shape1
  split at h
  · split at h
    · simp only [beq_iff_eq] at h; subst h; simp_all [AV.toI]
    · cases h
  · split at h
    · simp_all [AV.toS]
    · cases h
  · split at h
    · simp_all [AV.toB]
    · cases h
  · split at h
    · simp only [beq_iff_eq] at h; subst h; simp_all [AV.toL]
    · cases h
  · rfl
theorem shapes_eq {P : Program} {cs : List AV} : ∀ {ts : List TypeId} {k : Nat}, fitss P cs k ts = true → k + ts.length ≤ cs.length → shapes P cs k ts = (cs.drop k).take ts.length
  | [], k, _, _ => by simp [shapes]
  | t :: ts, k, h, hl => by
    simp only [fitss, Bool.and_eq_true] at h
    simp only [List.length_cons] at hl
    rw [shapes, shape1_eq h.1, shapes_eq h.2 (by omega)]
    have hk : k < cs.length := by omega
    simp only [List.length_cons]
    rw [List.drop_eq_getElem_cons hk (i := k), List.take_succ_cons]
    simp [List.getD_eq_getElem?_getD, List.getElem?_eq_getElem hk]
theorem shapeC_eq {P : Program} {t : TypeId} {v : AV} (h : fitsC P t v = true) : shapeC P t v = v.cells := by
  simp only [fitsC, Bool.and_eq_true, beq_iff_eq] at h
  rw [shapeC, shapes_eq h.2 (by omega), List.drop_zero, ← h.1, List.take_length]

theorem boundT_ok {con : Option Nat} {v : Option AV} {d n : Nat} (h : (boundT con v d).run = .ok n) : boundA v d = .ok n := by
  cases v with
  | none => exact h
  | some v =>
    obtain ⟨i, h1, h2⟩ := R.tbind_ok h
    obtain ⟨h3, h4⟩ := chk_ok h2
    simp only [decide_eq_true_eq] at h3
    cases h4
    simp [boundA, h1, h3]
theorem cutT_ok {con : Option Nat} {x y : AV} {l h n : Nat} {cut : Bool} (hc : (cutT con x l h n cut).run = .ok y) : cutA x l h n cut = .ok y := by
  unfold cutT at hc
  split at hc
  · exact hc
  · split at hc
    · cases hc; simp [cutA]
    · cases hc; simp [cutA]
    · rcases brc_ok hc with ⟨h1, h2⟩ | ⟨h1, h2⟩
      · cases h2; simp only [decide_eq_true_eq] at h1; simp [cutA, h1]
      · cases h2; simp only [decide_eq_false_iff_not] at h1; simp [cutA, h1]
  · exact R.t_ok hc
theorem sliceT_ok {P : Program} {con : Option Nat} {t : TypeId} {x y : AV} {lo hi mx : Option AV} (h : (sliceT P con t x lo hi mx).run = .ok y) : sliceA P t x lo hi mx = .ok y := by
  unfold sliceT at h
  obtain ⟨d, h1, h2⟩ := R.tbind_ok h
  unfold sliceA
  rw [h1]
  simp only [R.bind]
  split at h2
  · split at h2
    · obtain ⟨l, h3, h2⟩ := T.bind_ok h2
      obtain ⟨r, h4, h2⟩ := T.bind_ok h2
      split at h2
      · obtain ⟨h5, h6⟩ := chk_ok h2
        cases h6
        simp only [mark, Bool.and_eq_true, decide_eq_true_eq] at h5
        simp [boundT_ok h3, boundT_ok h4, h5]
      · cases h2
    · cases h2
  · obtain ⟨sz, h3, h2⟩ := R.tbind_ok h2
    obtain ⟨n, h4, h2⟩ := R.tbind_ok h2
    obtain ⟨l, h5, h2⟩ := T.bind_ok h2
    obtain ⟨r, h6, h2⟩ := T.bind_ok h2
    obtain ⟨m, h7, h2⟩ := T.bind_ok h2
    have h7' : boundA mx r = .ok m := by
      cases mx with
      | none => exact h7
      | some v => exact boundT_ok h7
    simp only [h3, h4, boundT_ok h5, boundT_ok h6, h7']
    split at h2
    · cases h2
    · rename_i hne
      split at h2
      · rename_i hsz
        obtain ⟨h8, h9⟩ := chk_ok h2
        simp only [mark, Bool.and_eq_true, decide_eq_true_eq] at h8
        have h10 : mx.isNone = true ∨ hi.isSome = true := by
          cases mx with
          | none => exact .inl rfl
          | some v => cases hi with
            | none => exact absurd rfl (hne v rfl)
            | some u => exact .inr rfl
        rw [if_pos ⟨h8.1.1, h8.1.2, h8.2, hsz, h10⟩]
        exact cutT_ok h9
      · cases h2
  · have := R.t_ok h2
    unfold sliceA at this
    rw [h1] at this
    simpa only [R.bind] using this

theorem indexT_ok {P : Program} {con : Option Nat} {t : TypeId} {x y : AV} {i : Int} (h : (indexT P con t x i).run = .ok y) : indexA P t x i = .ok y := by
  unfold indexT at h
  cases con with
  | none => exact R.t_ok h
  | some q =>
    simp only at h
    obtain ⟨d, h1, h2⟩ := R.tbind_ok h
    unfold indexA
    rw [h1]
    simp only [R.bind]
    split at h2
    · obtain ⟨s, h3, h2⟩ := R.tbind_ok h2
      simp only [h3]
      split at h2
      · rename_i hsz
        split at h2
        · rename_i sz l tl _
          obtain ⟨h4, h5⟩ := brf_ok h2
          cases h5
          simp only [mark, Bool.and_eq_true, decide_eq_true_eq] at h4
          simp only [lenA]
          rw [if_pos ⟨h4.1.1, h4.1.2, hsz⟩]
          have hi : i.toNat < l.length := by omega
          rw [List.getElem?_eq_getElem hi]
          have hg : l.getD i.toNat undef = l[i.toNat] := by simp [List.getD_eq_getElem?_getD, List.getElem?_eq_getElem hi]
          rw [hg] at h4 ⊢
          simp [shapeC_eq h4.2]
        · obtain ⟨h4, h5⟩ := brf_ok h2
          cases h5
          simp only [mark, Bool.and_eq_true, decide_eq_true_eq] at h4
          simp only [lenA]
          rw [if_pos ⟨h4.1, h4.2, hsz⟩]
        · obtain ⟨h4, h5⟩ := brf_ok h2
          cases h5
          simp only [mark, Bool.and_eq_true, decide_eq_true_eq] at h4
          simp only [lenA]
          rw [if_pos ⟨h4.1, h4.2, hsz⟩]
        · cases h2
      · cases h2
    · obtain ⟨s, h3, h2⟩ := R.tbind_ok h2
      simp only [h3]
      split at h2
      · obtain ⟨h4, h5⟩ := brf_ok h2
        cases h5
        simp only [mark, Bool.and_eq_true, decide_eq_true_eq] at h4
        rw [if_pos h4]
      · obtain ⟨h4, h5⟩ := brf_ok h2
        cases h5
        simp only [mark, Bool.and_eq_true, decide_eq_true_eq] at h4
        rw [if_pos h4]
      · cases h2
    · cases h2

theorem text_eq {a b : ByteArray} : (a.toList == b.toList) = decide (a = b) := by
  rw [Bool.eq_iff_iff]
  simp only [beq_iff_eq, decide_eq_true_eq]
  constructor
  · intro h
    exact bytes_eq (by rw [beq_toListBytes]; exact beq_of_eq h)
  · rintro rfl; rfl
theorem binT_ok {P : Program} {S : TypeId → Bool} {con : Option Nat} {op : BinOp} {t : TypeId} {x y z : AV} (h : (binT P S con op t x y).run = .ok z) : binA P S op t x y = .ok z := by
  unfold binT at h
  split at h
  · rename_i k a k' b
    split at h
    · rename_i hk
      simp only [decide_eq_true_eq] at hk
      subst hk
      have key : ∀ op, binA P S op t (.int k a) (.int k b) = lift "binOp" ((pureRun P (binOp op t (.int k a) (.int k b))).bind ofV) := fun _ => rfl
      split at h
      · cases h; rw [key]; simp [binOp]; rfl
      · cases h; rw [key]; simp [binOp]; rfl
      · cases h; rw [key]; simp [binOp]; rfl
      · obtain ⟨h1, h2⟩ := chk_ok h; cases h2; simp only [Bool.not_eq_true', decide_eq_false_iff_not] at h1; rw [key]; simp [binOp, Op.intDiv, h1]; rfl
      · obtain ⟨h1, h2⟩ := chk_ok h; cases h2; simp only [Bool.not_eq_true', decide_eq_false_iff_not] at h1; rw [key]; simp [binOp, Op.intDiv, h1]; rfl
      · cases h; rw [key]; simp [binOp]; rfl
      · cases h; rw [key]; simp [binOp]; rfl
      · cases h; rw [key]; simp [binOp]; rfl
      · cases h; rw [key]; simp [binOp]; rfl
      · cases h; rw [key]; simp [binOp]; rfl
      · cases h; rw [key]; simp [binOp]; rfl
      · exact R.t_ok h
    · exact R.t_ok h
  · rename_i a b
    have key : ∀ op, binA P S op t (.str a) (.str b) = lift "binOp" ((pureRun P (Op.stringOp op a b)).bind ofV) := fun op => by cases op <;> rfl
    split at h
    · obtain ⟨h1, h2⟩ := chk_ok h
      cases h2
      simp only [decide_eq_true_eq] at h1
      have : ¬ ((a.size + b.size : Nat) : Int) > IntKind.i64.max := by
        have : IntKind.i64.max = 9223372036854775807 := by decide
        omega
      rw [key]
      simp only [Op.stringOp]
      rw [if_neg this]
      rfl
    · cases h; rw [key]; simp only [Op.stringOp, text_eq]; rfl
    · cases h; rw [key]; simp only [Op.stringOp, text_eq]; rfl
    · cases h; rw [key]; rfl
    · exact R.t_ok h
  · exact R.t_ok h

theorem index_str {P : Program} {t : TypeId} {s : ByteArray} {k : IntKind} {n : Int} (hu : P.underlying t = some .string) (h0 : 0 ≤ n) (h1 : n < s.size) : pureRun P (Instr.index t (.string s) (.int k n)) = some (.int .u8 (byteAt s n.toNat).toNat) := by
  have hn : n.toNat < s.size := by omega
  have h2 : s[n.toNat]? = some (byteAt s n.toNat) := by
    rw [getElem?_pos s n.toNat hn]
    congr 1
    show s.data[n.toNat]'hn = _
    have hl : n.toNat < s.data.toList.length := by simpa using hn
    simp [byteAt, List.getD_eq_getElem?_getD, List.getElem?_eq_getElem hl]
  unfold Instr.index
  have h : (if 0 ≤ n then s[n.toNat]? else none) = some (byteAt s n.toNat) := by rw [if_pos h0, h2]
  simp only [asIntOf, underlying, bind]
  have e : ∀ (f : Program → Sem TypeDesc) (g : TypeDesc → Sem Value), pureRun P ((program.bind f).bind g) = pureRun P ((f P).bind g) := fun _ _ => rfl
  refine (e _ _).trans ?_
  simp only [hu]
  show pureRun P (match (if 0 ≤ n then s[n.toNat]? else none) with | some b => _ | none => _) = _
  rw [h]
  rfl

theorem pureT_ok {X : SX} {τ : Fr} {o : Oper} {y : AV} (h : (pureT X τ o).run = .ok y) : pureA X.E τ o = .ok y := by
  unfold pureT at h
  dsimp only at h
  generalize conOf X o = con at h
  split at h
  · rename_i hop
    obtain ⟨a, h1, h⟩ := R.tbind_ok h
    obtain ⟨b, h2, h⟩ := R.tbind_ok h
    unfold pureA; rw [hop]
    simp only [h1, h2, R.bind]
    exact binT_ok h
  · rename_i hop
    obtain ⟨a, h1, h⟩ := R.tbind_ok h
    split at h
    · cases h; unfold pureA; rw [hop]; simp only [h1, R.bind]; rfl
    · cases h; unfold pureA; rw [hop]; simp only [h1, R.bind]; rfl
    · exact R.t_ok h
  · rename_i hop
    obtain ⟨a, h1, h⟩ := R.tbind_ok h
    obtain ⟨b, h2, h⟩ := R.tbind_ok h
    obtain ⟨c, h3, h⟩ := R.tbind_ok h
    obtain ⟨d, h4, h⟩ := R.tbind_ok h
    unfold pureA; rw [hop]
    simp only [h1, h2, h3, h4, R.bind]
    exact sliceT_ok h
  · rename_i hop
    obtain ⟨a, h1, h⟩ := R.tbind_ok h
    obtain ⟨b, h2, h⟩ := R.tbind_ok h
    obtain ⟨c, h3, h⟩ := R.tbind_ok h
    unfold pureA; rw [hop]
    simp only [h1, h2, h3, R.bind]
    exact indexT_ok h
  · rename_i hop
    split at h
    · exact R.t_ok h
    · obtain ⟨a, h1, h⟩ := R.tbind_ok h
      obtain ⟨b, h2, h⟩ := R.tbind_ok h
      split at h
      · obtain ⟨u, h3, h⟩ := R.tbind_ok h
        split at h
        · obtain ⟨h4, h5⟩ := brf_ok h
          cases h5
          simp only [mark, Bool.and_eq_true, decide_eq_true_eq] at h4
          unfold pureA; rw [hop]
          simp only [h1, h2, R.bind, index_str (under_ok h3) h4.1 h4.2]
          rfl
        · cases h
      · cases h
  · exact R.t_ok h
end Go.Proofs.YthfkkflogbibfaaGreatDoor.AM
