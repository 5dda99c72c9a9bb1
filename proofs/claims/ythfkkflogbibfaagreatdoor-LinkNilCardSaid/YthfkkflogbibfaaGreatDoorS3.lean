/- The symbolic machine says what the abstract machine says: operations that look at memory or make it. -/
import Derived.Test.YthfkkflogbibfaaGreatDoorS2
namespace Go.Proofs.YthfkkflogbibfaaGreatDoor.AM
set_option linter.unusedVariables false
set_option linter.unusedSimpArgs false
set_option linter.unusedSectionVars false

theorem toBytes_of : ∀ {l : List AV}, isBytes l = true → toBytes l = .ok (l.map fun v => UInt8.ofNat v.toI.toNat)
  | [], _ => rfl
  | v :: vs, h => by
    simp only [isBytes, List.all_cons, Bool.and_eq_true] at h
    have ih := toBytes_of (l := vs) (by simpa [isBytes] using h.2)
    have h1 := h.1
    split at h1
    · simp [toBytes, ih, AV.toI]
    · cases h1
theorem getD_of {α : Type} {l : List α} {i : Nat} {d : α} (h : i < l.length) : l[i]? = some (l.getD i d) := by
  simp [List.getD_eq_getElem?_getD, List.getElem?_eq_getElem h]

theorem readT_ok {X : SX} {τ : Fr} {h : H} {o : Oper} {y : AV} (hr : (readT X τ h o).run = .ok y) : readA X.E τ h o = .ok y := by
  unfold readT at hr
  dsimp only at hr
  generalize conOf X o = con at hr
  split at hr
  · exact R.t_ok hr
  · split at hr
    · -- load
      rename_i t a hop
      obtain ⟨p, h1, hr⟩ := R.tbind_ok hr
      split at hr
      · rename_i b i sz off
        split at hr
        · rename_i sz' l hb
          split at hr
          · rename_i hsz
            simp only [decide_eq_true_eq] at hsz
            subst hsz
            obtain ⟨g, h2, hr⟩ := R.tbind_ok hr
            unfold readA; rw [hop]
            simp only [h1, R.bind, loadA, hb]
            split at hr
            · obtain ⟨h3, h4⟩ := brf_ok hr
              cases h4
              simp only [mark, Bool.and_eq_true, decide_eq_true_eq] at h3
              rw [getD_of (d := undef) h3.1.1]
              simp only [if_true, partA, h2, R.bind]
              rw [getD_of (d := undef) h3.1.2, shape1_eq h3.2]
              rfl
            · obtain ⟨s, h5, hr⟩ := R.tbind_ok hr
              split at hr
              · rename_i hs
                simp only [decide_eq_true_eq] at hs
                obtain ⟨h3, h4⟩ := brf_ok hr
                cases h4
                simp only [mark, Bool.and_eq_true, decide_eq_true_eq] at h3
                rw [getD_of (d := undef) h3.1.1]
                simp only [if_true, partA, h2, R.bind, h5]
                rw [if_pos h3.1.2, shapes_eq h3.2 (by omega), hs]
              · cases hr
          · cases hr
        · cases hr
      · exact R.t_ok hr
    · -- convert
      rename_i src dst x hop
      obtain ⟨a, h1, hr⟩ := R.tbind_ok hr
      obtain ⟨us, h2, hr⟩ := R.tbind_ok hr
      obtain ⟨ud, h3, hr⟩ := R.tbind_ok hr
      split at hr
      · obtain ⟨ue, h4, hr⟩ := R.tbind_ok hr
        split at hr
        · obtain ⟨s, h5, hr⟩ := R.tbind_ok hr
          split at hr
          · rename_i hs
            obtain ⟨l, h6, hr⟩ := R.tbind_ok hr
            obtain ⟨h7, h8⟩ := brf_ok hr
            cases h8
            unfold readA; rw [hop]
            simp only [h1, h2, h3, h4, h5, h6, R.bind]
            rw [if_pos hs, toBytes_of h7]
            rfl
          · cases hr
        · cases hr
      · cases hr
    · -- lookup
      rename_i t m k ok hop
      obtain ⟨vm, h1, hr⟩ := R.tbind_ok hr
      obtain ⟨vk, h2, hr⟩ := R.tbind_ok hr
      obtain ⟨u, h3, hr⟩ := R.tbind_ok hr
      split at hr
      · rename_i kt te
        obtain ⟨es, h4, hr⟩ := R.tbind_ok hr
        obtain ⟨z, h5, hr⟩ := R.tbind_ok hr
        split at hr
        · rename_i hk
          unfold readA; rw [hop]
          simp only [h1, h2, h3, h4, h5, R.bind]
          rw [if_neg (by simp [hk])]
          split at hr
          all_goals
            rcases brc_ok hr with ⟨g1, g2⟩ | ⟨g1, g2⟩
            · obtain ⟨g3, g4⟩ := chk_ok g2
              cases g4
              simp only [Bool.and_eq_true] at g3
              unfold findB at g1
              split at g1
              · rename_i p hf
                obtain ⟨i, v⟩ := p
                have hv : findV X.E.P X.E.S kt vk es = v := by unfold findV; rw [hf]
                rw [hv] at g3 ⊢
                simp [hf, lift, shape1_eq g3.2.2]
              · cases g1
            · obtain ⟨g3, g4⟩ := chk_ok g2
              cases g4
              unfold findB at g1
              split at g1
              · cases g1
              · rename_i hne
                unfold findS at g3
                cases hf : find (eqT X.E.P X.E.S 99 kt) vk es with
                | none => rw [hf] at g3; cases g3
                | some r => cases r with
                  | none => simp [hf, lift]
                  | some p => exact (hne _ hf).elim
        · cases hr
      · cases hr
    · exact R.t_ok hr

theorem elemsT_ok {con : Option Nat} {h : H} {x : AV} {l : List AV} (he : (elemsT con h x).run = .ok l) : elemsA h x = .ok l := by
  unfold elemsT at he
  split at he
  · split at he
    · rename_i hb
      split at he
      · rename_i hs
        obtain ⟨h1, h2⟩ := brf_ok he
        cases h2
        simp only [mark, decide_eq_true_eq] at h1 hs
        simp [elemsA, hb, h1, hs]
      · cases he
    · cases he
  · exact R.t_ok he
theorem newsT_ok {P : Program} {con : Option Nat} {sz : Nat} {xt : TypeId} {x : AV} {h : H} {l : List AV} (hn : (newsT P con sz xt x h).run = .ok l) : newsA P sz xt x h = .ok l := by
  unfold newsT at hn
  obtain ⟨d, h1, h2⟩ := R.tbind_ok hn
  split at h2
  · split at h2
    · rename_i hs
      unfold newsA
      simp only [h1, R.bind]
      rw [if_pos hs]
      exact elemsT_ok h2
    · cases h2
  · exact R.t_ok h2
theorem allocT_ok {X : SX} {τ : Fr} {id : Nat} {o : Oper} {r : AV × Blk} (hr : (allocT X τ id o).run = .ok r) : allocA X.E X.f τ id o = .ok r := by
  unfold allocT at hr
  dsimp only at hr
  generalize conOf X o = con at hr
  split at hr
  · exact R.t_ok hr
  · split at hr
    · rename_i hop
      obtain ⟨d, h1, hr⟩ := R.tbind_ok hr
      split at hr
      · obtain ⟨i, h2, hr⟩ := R.tbind_ok hr
        obtain ⟨z, h3, hr⟩ := R.tbind_ok hr
        obtain ⟨vl, h4, hr⟩ := R.tbind_ok hr
        obtain ⟨vc, h5, hr⟩ := R.tbind_ok hr
        obtain ⟨n, h6, hr⟩ := R.tbind_ok hr
        obtain ⟨m, h7, hr⟩ := R.tbind_ok hr
        split at hr
        · rename_i hz
          simp only [beq_iff_eq] at hz
          obtain ⟨h8, h9⟩ := brf_ok hr
          cases h9
          simp only [mark, Bool.and_eq_true, decide_eq_true_eq] at h8
          unfold allocA; rw [hop]
          simp only [h1, h2, h3, h4, h5, h6, h7, R.bind]
          rw [if_pos ⟨h8.1.1.1, h8.1.1.2, h8.1.2, h8.2, hz⟩]
        · cases hr
      · cases hr
    · exact R.t_ok hr
theorem storeT_ok {P : Program} {h h' : H} {t : TypeId} {v p : AV} (hs : (storeT P h t v p).run = .ok h') : storeA P h t v p = .ok h' := by
  unfold storeT at hs
  split at hs
  · split at hs
    · rename_i hb
      obtain ⟨s, h1, hs⟩ := R.tbind_ok hs
      split at hs
      · rename_i hc
        simp only [Bool.and_eq_true, beq_iff_eq] at hc
        obtain ⟨h2, h3⟩ := brf_ok hs
        cases h3
        simp only [mark, Bool.and_eq_true, decide_eq_true_eq] at h2
        simp only [storeA, hb, R.bind, h1]
        rw [getD_of (d := undef) h2.1]
        simp only
        rw [if_pos ⟨hc.1, h2.2, hc.2.1, hc.2.2⟩]
      · cases hs
    · cases hs
  · exact R.t_ok hs
theorem appendT_ok {X : SX} {con : Option Nat} {dst : Option Nat} {st xt : TypeId} {s x : AV} {h : H} {r : AV × H} (ha : (appendT X con dst st xt s x h).run = .ok r) : appendA X.E X.f dst st xt s x h = .ok r := by
  unfold appendT at ha
  obtain ⟨d, h1, ha⟩ := R.tbind_ok ha
  split at ha
  · obtain ⟨i, h2, ha⟩ := R.tbind_ok ha
    obtain ⟨z, h3, ha⟩ := R.tbind_ok ha
    obtain ⟨new, h4, ha⟩ := T.bind_ok ha
    obtain ⟨n, h5, ha⟩ := R.tbind_ok ha
    split at ha
    · rename_i hc
      simp only [Bool.and_eq_true, beq_iff_eq, decide_eq_true_eq] at hc
      obtain ⟨h6, h7⟩ := chk_ok ha
      simp only [mark, Bool.and_eq_true, decide_eq_true_eq] at h6
      unfold appendA
      simp only [h1, h2, h3, newsT_ok h4, h5, R.bind]
      rw [if_pos ⟨hc.1, h6.1.1, h6.1.2, hc.2.1, hc.2.2, h6.2⟩]
      split at h7
      · rcases brc_ok h7 with ⟨g1, g2⟩ | ⟨g1, g2⟩ <;> (cases g2; simp [g1])
      · rcases brc_ok h7 with ⟨g1, g2⟩ | ⟨g1, g2⟩ <;> (cases g2; simp [g1])
      · split at h7
        · rename_i ht; cases h7; simp [ht]
        · cases h7
      · obtain ⟨old, h8, h7⟩ := T.bind_ok h7
        simp only [elemsT_ok h8]
        split at h7
        · rcases brc_ok h7 with ⟨g1, g2⟩ | ⟨g1, g2⟩ <;> (cases g2; simp [g1])
        · split at h7
          · cases h7; simp
          · cases h7
      · cases h7
    · cases ha
  · cases ha

theorem heavyT_ok {X : SX} {τ : Fr} {h : H} {o : Oper} {r : AV × H} (hr : (heavyT X τ h o).run = .ok r) : heavyA X.E X.f τ h o = .ok r := by
  unfold heavyT at hr
  dsimp only at hr
  generalize conOf X o = con at hr
  split at hr
  · rename_i hop
    obtain ⟨p, h1, hr⟩ := R.tbind_ok hr
    obtain ⟨v, h2, hr⟩ := R.tbind_ok hr
    obtain ⟨h', h3, hr⟩ := T.bind_ok hr
    cases hr
    unfold heavyA; rw [hop]
    simp only [h1, h2, storeT_ok h3, R.bind]
  all_goals try (
    rename_i hop
    obtain ⟨vm, h1, hr⟩ := R.tbind_ok hr
    obtain ⟨vk, h2, hr⟩ := R.tbind_ok hr
    obtain ⟨vx, h3, hr⟩ := R.tbind_ok hr
    obtain ⟨u, h4, hr⟩ := R.tbind_ok hr
    split at hr
    · split at hr
      · split at hr
        · rename_i hb
          split at hr
          · rename_i hk
            obtain ⟨h5, h6⟩ := chk_ok hr
            cases h6
            unfold heavyA; rw [hop]
            simp only [h1, h2, h3, h4, R.bind, hb]
            rw [if_neg (by simp [hk])]
            unfold putOk at h5
            split at h5
            · rename_i hf
              split at h5
              · rename_i e he
                simp [hf, lift, he, h5, putM]
              · cases h5
            · rename_i hf
              simp [hf, lift, putM]
            · cases h5
          · cases hr
        · cases hr
      · cases hr
    · cases hr)
  · rename_i args argTypes hop
    obtain ⟨vs, h1, hr⟩ := R.tbind_ok hr
    split at hr
    · obtain ⟨t, h2, hr⟩ := R.tbind_ok hr
      obtain ⟨u, h3, hr⟩ := R.tbind_ok hr
      unfold heavyA; rw [hop]
      simp only [h1, h2, h3, R.bind]
      exact appendT_ok hr
    · cases hr
  · exact R.t_ok hr
theorem callT_ok {X : SX} {τ : Fr} {h : H} {o : Oper} {r : AV × H} (hr : (callT X τ h o).run = .ok r) : callA X.E X.calls τ h o = .ok r := by
  unfold callT at hr
  dsimp only at hr
  split at hr
  · rename_i hop
    obtain ⟨g, h1, hr⟩ := R.tbind_ok hr
    split at hr
    · obtain ⟨vs, h2, hr⟩ := R.tbind_ok hr
      unfold callA; rw [hop]
      simp only [h1, h2, R.bind]
      split at hr
      · rename_i hc; rw [hc]; exact hr
      · rename_i hc; rw [hc]; exact hr
    · cases hr
  · cases hr
theorem opT_ok {X : SX} {τ : Fr} {h : H} {o : Oper} {r : AV × H} (hr : (opT X τ h o).run = .ok r) : opA X.E X.f X.calls τ h o = .ok r := by
  unfold opT at hr
  unfold opA
  split at hr
  · rename_i hk; obtain ⟨v, h1, hr⟩ := T.bind_ok hr; cases hr; simp [hk, pureT_ok h1]
  · rename_i hk; obtain ⟨v, h1, hr⟩ := T.bind_ok hr; cases hr; simp [hk, readT_ok h1]
  · rename_i hk; obtain ⟨v, h1, hr⟩ := R.tbind_ok hr; cases hr; simp [hk, h1]
  · rename_i hk; obtain ⟨⟨v, b⟩, h1, hr⟩ := T.bind_ok hr; cases hr; simp [hk, allocT_ok h1]
  · rename_i hk; simp only [hk]; exact heavyT_ok hr
  · rename_i hk; simp only [hk]; exact callT_ok hr

theorem upd_same {τ : Fr} {d : Nat} {v w : AV} (h : v = w) : upd τ d v = upd τ d w := by rw [h]
theorem putT_ok {α : Type} {X : SX} {N : Nat} {τ : Fr} {dst : Option Nat} {v : AV} {h : α} {r : Fr × α} (hr : (putT X N τ dst v h).run = .ok r) : putA N τ dst v = .ok r.1 ∧ r.2 = h := by
  unfold putT at hr
  split at hr
  · cases hr; exact ⟨rfl, rfl⟩
  · split at hr
    · rename_i hd
      simp only [decide_eq_true_eq] at hd
      split at hr
      · split at hr
        · rcases br_ok hr with ⟨g1, g2⟩ | ⟨g1, g2⟩ <;> (subst g1; cases g2; exact ⟨by simp [putA, hd], rfl⟩)
        · cases hr
      · cases hr; exact ⟨by simp [putA, hd], rfl⟩
    · cases hr
theorem stepT_ok {X : SX} {N : Nat} {ops : Array Oper} {τ : Fr} {h : H} {o : Oper} {r : Fr × H} (hr : (stepT X N ops τ h o).run = .ok r) : stepA X.E X.f X.calls N ops τ h o = .ok r := by
  unfold stepT at hr
  unfold stepA
  split at hr
  · cases hr
  rename_i hgt
  rw [if_neg (by simp [hgt])]
  split at hr
  · rename_i hw
    obtain ⟨⟨v, h'⟩, h1, hr⟩ := T.bind_ok hr
    obtain ⟨h2, h3⟩ := putT_ok hr
    rw [if_pos hw, opT_ok h1]
    simp only [h2, R.bind]
    rw [← h3]
  · rename_i hw
    obtain ⟨τ', h1, hr⟩ := R.tbind_ok hr
    cases hr
    rw [if_neg (by simp [hw])]
    simp [h1]
theorem opsT_ok {X : SX} {N : Nat} {ops : Array Oper} : ∀ {l : List Oper} {τ : Fr} {h : H} {r : Fr × H}, (opsT X N ops l τ h).run = .ok r → opsA X.E X.f X.calls N ops l τ h = .ok r
  | [], τ, h, r, hr => hr
  | o :: rest, τ, h, r, hr => by
    obtain ⟨⟨τ', h'⟩, h1, hr⟩ := T.bind_ok hr
    simp only [opsA, stepT_ok h1, R.bind]
    exact opsT_ok hr
theorem stepDT_ok {X : SX} {N : Nat} {ops : Array Oper} {id : Nat} {τ : Fr} {h : H} {o : Oper} {r : Fr × H} (hr : (stepDT X N ops id τ h o).run = .ok r) : stepD X.E X.f X.calls N ops id τ h o = .ok r := by
  unfold stepDT at hr
  unfold stepD
  split at hr
  · rename_i ha
    rw [if_pos ha]
    split at hr
    · cases hr
    rename_i hgt
    rw [if_neg (by simp [hgt])]
    split at hr
    · rename_i hw
      rw [if_pos hw]
      split at hr
      · rename_i hh
        obtain ⟨⟨v, b⟩, h1, hr⟩ := T.bind_ok hr
        obtain ⟨h2, h3⟩ := putT_ok hr
        simp only [hh, allocT_ok h1, h2, R.bind]
        rw [← h3]
      · cases hr
    · rename_i hw
      rw [if_neg (by simp [hw])]
      obtain ⟨τ', h1, hr⟩ := R.tbind_ok hr
      cases hr
      simp [h1]
  · rename_i ha
    rw [if_neg (by simp [ha])]
    exact stepT_ok hr
theorem traceT_ok {X : SX} {N : Nat} {ops : Array Oper} : ∀ {l : List Oper} {id : Nat} {τ : Fr} {h : H} {r : List (Fr × H) × (Fr × H)}, (traceT X N ops l id τ h).run = .ok r → traceA X.E X.f X.calls N ops l id τ h = .ok r
  | [], id, τ, h, r, hr => hr
  | o :: rest, id, τ, h, r, hr => by
    obtain ⟨⟨τ', h'⟩, h1, hr⟩ := T.bind_ok hr
    obtain ⟨⟨l, r2⟩, h2, hr⟩ := T.bind_ok hr
    cases hr
    simp only [traceA, stepDT_ok h1, R.bind, traceT_ok h2]
end Go.Proofs.YthfkkflogbibfaaGreatDoor.AM
