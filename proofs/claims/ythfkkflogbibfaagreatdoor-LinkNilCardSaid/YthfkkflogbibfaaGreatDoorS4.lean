/- The symbolic machine says what the abstract machine says: regions and code. -/
import Derived.Test.YthfkkflogbibfaaGreatDoorS3
namespace Go.Proofs.YthfkkflogbibfaaGreatDoor.AM
set_option linter.unusedVariables false
set_option linter.unusedSimpArgs false
set_option linter.unusedSectionVars false

theorem same_refl : ∀ v : AV, same v v = true := by
  intro v
  exact AV.rec (motive_1 := fun v => same v v = true) (motive_2 := fun l => sames l l = true)
    (fun _ => by simp [same]) (fun _ _ => by simp [same]) (fun _ => by simp [same]) rfl (fun _ _ => by simp [same]) (fun _ _ _ _ => by simp [same]) (fun cs off h => by simp [same, h]) rfl
    (fun _ _ _ _ _ => by simp [same]) (fun _ _ _ _ => by simp [same]) (fun _ l _ h => by simp [same, h]) (fun _ l h => by simp [same, h]) rfl (fun _ => by simp [same]) rfl
    (fun _ l m h k => by simp [same, h, k]) rfl (fun l h => by simpa [same] using h) (fun l h => by simpa [same] using h) rfl (fun x xs h k => by simp [sames, h, k]) v
theorem sames_refl : ∀ l : List AV, sames l l = true
  | [] => rfl
  | x :: xs => by simp [sames, same_refl x, sames_refl xs]
theorem samePairs_refl : ∀ l : List (AV × AV), samePairs l l = true
  | [] => rfl
  | x :: xs => by simp [samePairs, same_refl, samePairs_refl xs]
theorem sameBlk_refl (b : Option Blk) : sameBlk b b = true := by
  cases b with
  | none => rfl
  | some b => cases b <;> simp [sameBlk, sames_refl, samePairs_refl]

theorem get_set_ne {α : Type} {l : List α} {i j : Nat} {x : α} (h : i ≠ j) : (l.set i x)[j]? = l[j]? := by
  rw [List.getElem?_set]; simp [h]
theorem get_append_lt {α : Type} {l m : List α} {j : Nat} (h : j < l.length) : (l ++ m)[j]? = l[j]? := List.getElem?_append_left h

theorem store_touch {P : Program} {h h' : H} {t : TypeId} {v p : AV} (hs : storeA P h t v p = .ok h') {b : Nat} (hb : depOf p ≠ some b) : h'[b]? = h[b]? := by
  unfold storeA at hs
  split at hs
  · split at hs
    · obtain ⟨s, h1, hs⟩ := R.bind_ok hs
      split at hs
      · cases hs; exact get_set_ne (fun e => hb (by rw [e]; rfl))
      · cases hs
    · cases hs
  · split at hs
    · split at hs
      · obtain ⟨s, h1, hs⟩ := R.bind_ok hs
        split at hs
        · cases hs; exact get_set_ne (fun e => hb (by rw [e]; rfl))
        · cases hs
      · cases hs
    · cases hs
  · cases hs
theorem append_touch {E : Env} {f : FuncId} {dst : Option Nat} {st xt : TypeId} {s x : AV} {h : H} {r : AV × H} (ha : appendA E f dst st xt s x h = .ok r) {b : Nat} (hb : b < h.length)
    (hs : match s with | .nils => True | .lst _ _ .clip => True | .lst _ _ (.own t) => t ≠ b | .sl c _ _ _ _ => c ≠ b | _ => False) : r.2[b]? = h[b]? := by
  unfold appendA at ha
  obtain ⟨d, h1, ha⟩ := R.bind_ok ha
  split at ha
  · obtain ⟨i, h2, ha⟩ := R.bind_ok ha
    obtain ⟨z, h3, ha⟩ := R.bind_ok ha
    obtain ⟨new, h4, ha⟩ := R.bind_ok ha
    obtain ⟨n, h5, ha⟩ := R.bind_ok ha
    split at ha
    · split at ha
      · split at ha
        · cases ha; rfl
        · cases ha; exact get_append_lt hb
      · split at ha
        · cases ha; rfl
        · cases ha; exact get_append_lt hb
      · split at ha
        · cases ha
          simp only at hs
          rw [get_append_lt (by simpa using hb)]; exact get_set_ne hs
        · cases ha
      · simp only at hs
        obtain ⟨old, h6, ha⟩ := R.bind_ok ha
        split at ha
        · split at ha
          · cases ha; rfl
          · cases ha; exact get_append_lt hb
        · split at ha
          · cases ha
            rw [get_append_lt (by simpa using hb)]; exact get_set_ne hs
          · cases ha
      · cases ha
    · cases ha
  · cases ha

theorem touch_op {E : Env} {f : FuncId} {call : CallF} {τ : Fr} {h h' : H} {o : Oper} {y : AV} {l : List Nat} (ho : opA E f call τ h o = .ok (y, h')) (hna : isAl E o = false) (hO : isO E o = true) (ht : touchA E τ o = some l) {b : Nat} (hb : b < h.length) (hl : b ∉ l) : h'[b]? = h[b]? := by
  unfold opA at ho
  cases hk : kindOf E o.op with
  | pure => simp [isO, hk] at hO
  | read => simp [isO, hk] at hO
  | light => simp [isO, hk] at hO
  | alloc => simp [isAl, hk] at hna
  | call =>
    exfalso
    unfold touchA at ht
    cases hop : o.op with
    | call c =>
      obtain ⟨callee, args, ats⟩ := c
      cases callee with
      | builtin bi => simp only [hop, kindOf] at hk; cases bi <;> simp at hk; split at hk <;> cases hk
      | value g => simp [hop] at ht
      | invoke r m => simp [hop] at ht
    | store => simp [hop, kindOf] at hk
    | mapUpdate => simp [hop, kindOf] at hk
    | insert => simp [hop, kindOf] at hk
    | alloc => simp [hop, kindOf] at hk
    | box => simp [hop, kindOf] at hk
    | buildSlice => simp [hop, kindOf] at hk
    | makeSlice => simp [hop, kindOf] at hk
    | makeMap => simp [hop, kindOf] at hk
    | convert src dst x => simp only [hop, kindOf] at hk; split at hk <;> (try split at hk) <;> cases hk
    | _ => simp [hop] at ht
  | heavy =>
    simp only [hk] at ho
    unfold heavyA at ho
    unfold touchA at ht
    have one : ∀ {x : Operand} {v : AV}, ev E τ x = .ok v → (match ev E τ x with | .ok v => (match depOf v with | some b => some [b] | none => some []) | .no _ => none) = some l → depOf v ≠ some b := by
      intro x v hv hx
      rw [hv] at hx
      simp only at hx
      cases hd : depOf v with
      | none => simp
      | some c =>
        rw [hd] at hx
        cases hx
        intro e
        cases e
        exact hl (List.mem_singleton.2 rfl)
    split at ho
    · rename_i hop
      rw [hop] at ht
      simp only at ht
      obtain ⟨p, h1, ho⟩ := R.bind_ok ho
      obtain ⟨v, h2, ho⟩ := R.bind_ok ho
      obtain ⟨h3, h4, ho⟩ := R.bind_ok ho
      cases ho
      exact store_touch h4 (one h1 ht)
    · rename_i hop
      rw [hop] at ht
      simp only at ht
      obtain ⟨vm, h1, ho⟩ := R.bind_ok ho
      obtain ⟨vk, h2, ho⟩ := R.bind_ok ho
      obtain ⟨vx, h3, ho⟩ := R.bind_ok ho
      obtain ⟨u, h4, ho⟩ := R.bind_ok ho
      have h5 := one h1 ht
      split at ho
      · split at ho
        · have hne : ∀ {b0 : Nat} {x : Blk}, depOf (.map b0) ≠ some b → (h.set b0 x)[b]? = h[b]? := fun {b0 x} h5 => get_set_ne (fun e => h5 (by rw [e]; rfl))
          split at ho
          · split at ho
            · cases ho
            · obtain ⟨r, h6, ho⟩ := R.bind_ok ho
              split at ho
              · split at ho
                · split at ho
                  · cases ho; exact hne h5
                  · cases ho
                · cases ho
              · cases ho; exact hne h5
          · cases ho
        · cases ho
      · cases ho
    · rename_i hop
      rw [hop] at ht
      simp only at ht
      obtain ⟨vm, h1, ho⟩ := R.bind_ok ho
      obtain ⟨vk, h2, ho⟩ := R.bind_ok ho
      obtain ⟨vx, h3, ho⟩ := R.bind_ok ho
      obtain ⟨u, h4, ho⟩ := R.bind_ok ho
      have h5 := one h1 ht
      split at ho
      · split at ho
        · have hne : ∀ {b0 : Nat} {x : Blk}, depOf (.map b0) ≠ some b → (h.set b0 x)[b]? = h[b]? := fun {b0 x} h5 => get_set_ne (fun e => h5 (by rw [e]; rfl))
          split at ho
          · split at ho
            · cases ho
            · obtain ⟨r, h6, ho⟩ := R.bind_ok ho
              split at ho
              · split at ho
                · split at ho
                  · cases ho; exact hne h5
                  · cases ho
                · cases ho
              · cases ho; exact hne h5
          · cases ho
        · cases ho
      · cases ho
    · rename_i bi args ats hop
      rw [hop] at ht
      obtain ⟨vs, h1, ho⟩ := R.bind_ok ho
      split at ho
      · -- append
        obtain ⟨t, h2, ho⟩ := R.bind_ok ho
        obtain ⟨u, h3, ho⟩ := R.bind_ok ho
        rename_i s x
        simp only at ht
        cases hal : args.toList with
        | nil => rw [hal] at ht; cases ht
        | cons a1 as =>
          rw [hal] at ht h1
          cases as with
          | nil => cases ht
          | cons a2 as =>
            cases as with
            | cons _ _ => cases ht
            | nil =>
              obtain ⟨s', g1, h1⟩ := R.bind_ok h1
              obtain ⟨r', g2, h1⟩ := R.bind_ok h1
              obtain ⟨x', g3, g2⟩ := R.bind_ok g2
              cases g2
              cases h1
              simp only [g1] at ht
              refine append_touch ho hb ?_
              split at ht
              · rename_i he; cases he; trivial
              · rename_i he; cases he; trivial
              · rename_i he; cases he; cases ht; exact fun e => hl (by simp [e])
              · rename_i he; cases he; cases ht; exact fun e => hl (by simp [e])
              · cases ht
      · -- copy
        cases ht
      · cases ho
    · cases ho

theorem touch_stepD {E : Env} {f : FuncId} {call : CallF} {N : Nat} {ops : Array Oper} {base i : Nat} {τ τ' : Fr} {h h' : H} {o : Oper} (hs : stepD E f call N ops (idAt E ops base i) τ h o = .ok (τ', h')) {l : List Nat} (hO : isO E o = true)
    (ht : (if isAl E o then some [idAt E ops base i] else touchA E τ o) = some l) {b : Nat} (hb : b < h.length) (hl : l.contains b = false) : h'[b]? = h[b]? := by
  have hl' : b ∉ l := by simpa using hl
  cases ha : isAl E o with
  | true =>
    rw [ha] at ht
    cases ht
    rcases stepD_al hs ha with ⟨_, _, v, blk, _, rfl, _⟩ | ⟨_, rfl, _⟩
    · exact get_set_ne (fun e => hl' (by simp [e]))
    · rfl
  | false =>
    rw [ha] at ht
    have hst := stepD_ot hs ha
    unfold stepA at hst
    split at hst
    · cases hst
    split at hst
    · split at hst
      · rename_i v h2 ho
        obtain ⟨τ2, _, hst⟩ := R.bind_ok hst
        cases hst
        exact touch_op ho ha hO (by simpa using ht) hb hl'
      · cases hst
    · obtain ⟨τ2, _, hst⟩ := R.bind_ok hst
      cases hst; rfl

theorem regionT_ok {X : SX} {N : Nat} {ops : Array Oper} {draw : Bool} {τ : Fr} {h : H} {r : Fr × H} (hr : (regionT X N ops draw τ h).run = .ok r) : regionA X.E X.f X.calls N ops draw τ h = .ok r := by
  unfold regionT at hr
  split at hr
  · exact opsT_ok hr
  · obtain ⟨⟨tr, τ', h'⟩, h1, hr⟩ := T.bind_ok hr
    simp only at hr
    have htr := traceT_ok h1
    split at hr
    · rename_i hc
      simp only [Bool.and_eq_true] at hc
      cases hr
      simp only [regionA, htr, R.bind]
      rw [if_pos hc.1, if_pos ?_, if_pos hc.2.2.1, if_pos hc.2.2.2]
      obtain ⟨t1, t2, t3, t4⟩ := trace_spec htr
      refine List.all_eq_true.2 fun ⟨j, i⟩ hm => ?_
      have h2 := List.all_eq_true.1 hc.2.1 (j, i) hm
      simp only at h2 ⊢
      cases hd : readDep X.E (frameAt tr τ' j) (opAt ops j) with
      | none => rfl
      | some b =>
        rw [hd] at h2
        simp only [Bool.and_eq_true, decide_eq_true_eq] at h2
        obtain ⟨h3, h4⟩ := h2
        simp only [Bool.or_eq_true]
        left
        unfold pairsA at hm
        obtain ⟨j', hj', hm⟩ := List.mem_flatMap.1 hm
        split at hm
        · obtain ⟨i', hi', he⟩ := List.mem_map.1 hm
          cases he
          obtain ⟨hi1, hi2⟩ := List.mem_filter.1 hi'
          simp only [Bool.and_eq_true] at hi2
          have hi := List.mem_range.1 hi1
          split at h4
          · rename_i l hl
            have hstep := t4 i (opAt ops i) (by rw [Array.getElem?_toList]; exact opAt_get hi)
            rw [touch_stepD hstep hi2.1.1.1 hl h3 (by simpa using h4)]
            exact sameBlk_refl _
          · cases h4
        · cases hm
    · cases hr

theorem iterT_ok {g : Fr → H → T (AM.X × Fr × H)} {g' : Fr → H → R (AM.X × Fr × H)} (hg : ∀ τ h r, (g τ h).run = .ok r → g' τ h = .ok r) : ∀ {n : Nat} {τ : Fr} {h : H} {r : AM.X × Fr × H}, (iterT g n τ h).run = .ok r → iter g' n τ h = .ok r
  | 0, τ, h, r, hr => by cases hr
  | n + 1, τ, h, r, hr => by
    obtain ⟨⟨x, τ', h'⟩, h1, hr⟩ := T.bind_ok hr
    simp only [iter, hg _ _ _ h1]
    cases x with
    | normal => exact iterT_ok hg hr
    | ret => exact hr
    | exit i => exact hr
theorem execT_ok {X : SX} {N : Nat} : ∀ {c : Code} {τ : Fr} {h : H} {r : AM.X × Fr × H}, (execT X N c τ h).run = .ok r → exec X.E X.f X.calls N c τ h = .ok r := by
  intro c
  induction c with
  | skip => intro τ h r hr; exact hr
  | label => intro τ h r hr; exact hr
  | region id ops draw =>
    intro τ h r hr
    obtain ⟨⟨τ', h'⟩, h1, hr⟩ := T.bind_ok hr
    simp only [exec, regionT_ok h1, R.bind]
    exact hr
  | seq a b iha ihb =>
    intro τ h r hr
    obtain ⟨⟨x, τ', h'⟩, h1, hr⟩ := T.bind_ok hr
    simp only [exec, iha h1]
    cases x with
    | normal => exact ihb hr
    | ret => exact hr
    | exit i => exact hr
  | cond c a b iha ihb =>
    intro τ h r hr
    obtain ⟨v, h1, hr⟩ := R.tbind_ok hr
    simp only [exec, h1]
    split at hr
    · exact iha hr
    · exact ihb hr
    · cases hr
  | block id b ih =>
    intro τ h r hr
    obtain ⟨⟨x, τ', h'⟩, h1, hr⟩ := T.bind_ok hr
    simp only [exec, ih h1]
    cases x with
    | normal => exact hr
    | ret => exact hr
    | exit i => exact hr
  | loop b ih =>
    intro τ h r hr
    simp only [exec]
    exact iterT_ok (fun _ _ _ => ih) hr
  | exit i => intro τ h r hr; exact hr
  | ret => intro τ h r hr; exact hr
  | _ => intro τ h r hr; cases hr
end Go.Proofs.YthfkkflogbibfaaGreatDoor.AM
