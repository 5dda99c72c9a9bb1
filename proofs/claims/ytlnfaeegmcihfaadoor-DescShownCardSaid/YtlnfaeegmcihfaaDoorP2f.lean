/- Layer 2, plain: the five laws. -/
import Derived.Test.YtlnfaeegmcihfaaDoorG16
import Derived.Test.YtlnfaeegmcihfaaDoorG17
import Derived.Test.YtlnfaeegmcihfaaDoorG18
import Derived.Test.YtlnfaeegmcihfaaDoorP2e
set_option linter.unusedVariables false
set_option linter.unusedSimpArgs false
namespace Go.Proofs.PL
open Go.RowKit Go.Proofs.YtlnfaeegmcihfaaDoorW.PrintWords Go.Proofs.YtlnfaeegmcihfaaDoor.G

theorem descRights (l : List UInt8) (hl : l.length ≤ 140737488351232) : Ev (fun k => hornbooklaw02_DescRights.f k (mk l)) true := by
  have hl' : l.length ≤ 9223372036854775806 := by omega
  unfold hornbooklaw02_DescRights.f
  refine Ev.bind (class_ev l hl') (Ev.bind (refClass_ev l hl') (Ev.bind (right_ev l hl') (Ev.bind (refRight l hl') (Ev.pos (by simp) (Ev.bind (ref_ev l hl') (Ev.bind (refRef_ev l hl') (Ev.pos (by simp) (Ev.pos rfl (Ev.pos (by simp) ?_)))))))))
  refine Ev.then (of_eq l hl) ?_
  have e1 : (⟨#[76]⟩ : ByteArray) = mk [76] := rfl
  have e2 : (⟨#[59]⟩ : ByteArray) = mk [59] := rfl
  simp only [e1, e2, append_mk, size_mk]
  refine Ev.pos (by omega) (Ev.pos (by simp; omega) (Ev.pos (by simp) (Ev.bind (show_ev l hl') (Ev.bind (refShow_ev (rank l) l (Nat.le_refl _) hl') (Ev.pos rfl (Ev.bind known02 (Ev.pure rfl)))))))

theorem elem_of_array (l : List UInt8) (h : rightB l = true) (h4 : ¬ rank l = 4) : elemB (91 :: l) = (l, 0) := by
  have h1 : rightB (91 :: l) = true := by rw [rightB_91 h]; simpa using h4
  have h2 : hasP (91 :: l) [91] = true := by rw [hasP_one]; simp [ch]
  simp [elemB, h1, h2]
theorem descArrays (l : List UInt8) (hl : l.length ≤ 140737488351232) : Ev (fun k => hornbooklaw02_DescArrays.f k (mk l)) true := by
  have hl' : l.length ≤ 9223372036854775806 := by omega
  unfold hornbooklaw02_DescArrays.f
  refine Ev.bind (array_ev l hl) (Ev.bind (refArray_ev l hl) (Ev.bind (elem_ev l hl') (Ev.bind (refElem_ev l hl') (Ev.pos rfl (Ev.pos rfl (Ev.pos rfl ?_))))))
  have e : ((elemB l).2 != (elemB l).2) = false := by simp
  simp only [e]
  refine Ev.step (fun k => by rw [hornbooklaw02_DescArrays.j0, if_neg (by decide)]) ?_
  refine Ev.ite (fun h => ?_) (fun h => Ev.bind known02 (Ev.pure rfl))
  by_cases hr : rightB l = true
  · by_cases h4 : rank l = 4
    · simp [arrayB, hr, h4] at h
    · have ea : arrayB l = (91 :: l, 0) := by simp [arrayB, hr, h4]
      rw [ea]
      have he := elem_ev (91 :: l) (by simp; omega)
      rw [elem_of_array l hr h4] at he
      exact Ev.bind he (Ev.pos rfl (Ev.pos rfl (Ev.bind known02 (Ev.pure rfl))))
  · simp [arrayB, hr] at h

/-! ### two types that are shown alike -/
def plainTx (l : List UInt8) : Bool := l == [105, 110, 116] || l == [98, 111, 111, 108] || l == [115, 116, 114] || l == [117, 110, 105, 116] || l == [110, 117, 108, 108]
theorem plainTx_eq (l : List UInt8) : hornbooklaw02_plain.f (mk l) = some (plainTx l) := by
  unfold hornbooklaw02_plain.f plainTx
  simp only [toList_mk]
  by_cases h1 : l = [105, 110, 116]
  · simp [h1]
  by_cases h2 : l = [98, 111, 111, 108]
  · simp [h2]
  by_cases h3 : l = [115, 116, 114]
  · simp [h3]
  by_cases h4 : l = [117, 110, 105, 116]
  · simp [h4]
  simp [h1, h2, h3, h4]
theorem baseTx_91 {b : List UInt8} (h : nmOk b = true ∨ plainB b = true) : ∀ c ∈ baseTx b, c ≠ 91 := by
  rcases h with h | h
  · intro c hc e
    subst e
    have hn := (nmOk_form h).2
    unfold baseTx at hc
    rw [if_pos h] at hc
    unfold nameB at hn
    simp only [Bool.and_eq_true, List.all_eq_true] at hn
    have := hn.2 91 hc
    revert this; decide
  · rcases plainB_ch h with e | e | e <;> (subst e; decide)
theorem tail_inj : ∀ (r r' : Nat) (a b : List UInt8), (∀ c ∈ a, c ≠ (91 : UInt8)) → (∀ c ∈ b, c ≠ (91 : UInt8)) → a ++ Lib.repeatL [91, 93] r = b ++ Lib.repeatL [91, 93] r' → a = b ∧ r = r' := by
  have htw : ∀ (a : List UInt8) (r : Nat), (∀ c ∈ a, c ≠ (91 : UInt8)) → (a ++ Lib.repeatL [91, 93] r).takeWhile (· != 91) = a := by
    intro a r h
    rw [List.takeWhile_append_of_pos (fun c hc => by simpa using h c hc)]
    cases r with
    | zero => simp [Lib.repeatL]
    | succ r => simp [Lib.repeatL]
  intro r r' a b ha hb e
  have e1 := congrArg (List.takeWhile (· != 91)) e
  rw [htw a r ha, htw b r' hb] at e1
  refine ⟨e1, ?_⟩
  have e2 := congrArg List.length e
  rw [List.length_append, List.length_append, Lib.repeatL_length, Lib.repeatL_length, e1] at e2
  simp at e2
  omega
theorem rank_base_inj : ∀ (a b : List UInt8), rank a = rank b → base a = base b → a = b := by
  have hrep : ∀ a : List UInt8, a = List.replicate (rank a) 91 ++ base a := by
    intro a
    have h : a.takeWhile (· == 91) ++ a.dropWhile (· == 91) = a := List.takeWhile_append_dropWhile
    have h2 : a.takeWhile (· == 91) = List.replicate (rank a) 91 := by
      apply List.eq_replicate_iff.2
      refine ⟨rfl, fun c hc => ?_⟩
      have := List.all_eq_true.1 (List.all_takeWhile (p := (· == (91 : UInt8))) (l := a)) _ hc
      simpa using this
    conv => lhs; rw [← h, h2]
    rfl
  intro a b h1 h2
  rw [hrep a, hrep b, h1, h2]

theorem shown_end (a b : List UInt8) (ha : a.length ≤ 9223372036854775806) (hb : b.length ≤ 9223372036854775806) (h : plainTx (classB a).1 ≠ plainTx (classB b).1) : Ev (fun k => hornbooklaw02_DescShown.j2 k (mk a) (mk b)) true := by
  refine Ev.step (fun k => by rw [hornbooklaw02_DescShown.j2]) ?_
  refine Ev.bind (class_ev a ha) (Ev.bind (class_ev b hb) ?_)
  refine Ev.then (plainTx_eq _) (Ev.then (plainTx_eq _) (Ev.pos (by simpa using h) (Ev.bind known02 (Ev.pure rfl))))
theorem shown_l0 : ∀ (n : Nat) (a b : List UInt8), rank a = n → rank b = n → a.length ≤ 9223372036854775806 → b.length ≤ 9223372036854775806 → plainTx (classB (base a)).1 ≠ plainTx (classB (base b)).1 →
    Ev (fun k => hornbooklaw02_DescShown.l0 k (mk a) (mk b)) true := by
  intro n
  induction n with
  | zero =>
    intro a b h1 h2 ha hb h
    have ea : base a = a := by have := drop_rank a; rw [h1] at this; simpa using this.symm
    have eb : base b = b := by have := drop_rank b; rw [h2] at this; simpa using this.symm
    rw [ea, eb] at h
    have hend := shown_end a b ha hb h
    refine Ev.step (fun k => by rw [hornbooklaw02_DescShown.l0, size_mk, size_mk]) ?_
    refine Ev.ite (fun p1 => Ev.ite (fun p2 => ?_) (fun _ => hend)) (fun _ => hend)
    refine Ev.pos (by omega) ?_
    simp only [bt_mk a 0 0 rfl (show 0 < a.length by omega)]
    refine Ev.ite (fun h9 => ?_) (fun _ => hend)
    exfalso
    obtain ⟨t, rfl⟩ := ch_91 (show ch a 0 = 91 by omega)
    rw [(rank_cons t).1] at h1; omega
  | succ n ih =>
    intro a b h1 h2 ha hb h
    have hx : ∀ x : List UInt8, rank x = n + 1 → ∃ t, x = 91 :: t ∧ rank t = n ∧ base x = base t := by
      intro x hx
      have h9 : ch x 0 = 91 := by
        by_cases h : ch x 0 = 91
        · exact h
        · have := (rank_zero h).1; omega
      obtain ⟨t, rfl⟩ := ch_91 h9
      obtain ⟨e1, e2⟩ := rank_cons t
      exact ⟨t, rfl, by omega, e2⟩
    obtain ⟨t, rfl, ht, et⟩ := hx a h1
    obtain ⟨u, rfl, hu, eu⟩ := hx b h2
    rw [et, eu] at h
    have x1 : (mk (91 :: t)).extract 1 (91 :: t).length = mk t := by rw [extract_mk, List.take_length]; rfl
    have x2 : (mk (91 :: u)).extract 1 (91 :: u).length = mk u := by rw [extract_mk, List.take_length]; rfl
    have c1 : ch (91 :: t) 0 = 91 := rfl
    have c2 : ch (91 :: u) 0 = 91 := rfl
    have y1 : 0 < (91 :: t).length := by simp
    have y2 : 0 < (91 :: u).length := by simp
    refine Ev.step (fun k => by rw [hornbooklaw02_DescShown.l0, size_mk, size_mk, bt_mk (91 :: t) 0 0 rfl y1, bt_mk (91 :: u) 0 0 rfl y2, c1, c2, x1, x2]) ?_
    refine Ev.pos (by omega) (Ev.pos (by omega) (Ev.pos (by omega) (Ev.pos rfl (Ev.pos (by omega) (Ev.pos rfl (Ev.pos (by omega) (Ev.pos (by omega) ?_)))))))
    exact ih t u ht hu (by simp at ha; omega) (by simp at hb; omega) h
theorem descShown (a b : List UInt8) (ha : a.length ≤ 140737488351232) (hb : b.length ≤ 140737488351232) : Ev (fun k => hornbooklaw02_DescShown.f k (mk a) (mk b)) true := by
  have ha' : a.length ≤ 9223372036854775806 := by omega
  have hb' : b.length ≤ 9223372036854775806 := by omega
  unfold hornbooklaw02_DescShown.f
  have hj : Ev (fun k => hornbooklaw02_DescShown.j0 k (mk a) (mk b) true) true := by
    refine Ev.step (fun k => by rw [hornbooklaw02_DescShown.j0, if_pos rfl]) ?_
    exact Ev.bind known02 (Ev.pure rfl)
  refine Ev.bind (right_ev a ha') (Ev.ite (fun hra => Ev.bind (right_ev b hb') (Ev.ite (fun hrb => Ev.ite (fun _ => hj) (fun hne => ?_)) (fun _ => hj))) (fun _ => hj))
  refine Ev.bind (show_ev a ha') (Ev.bind (show_ev b hb') ?_)
  simp only [toList_mk] at hne ⊢
  by_cases hs : showB a = showB b
  · have e : (showB a != showB b) = false := by simp [hs]
    rw [e]
    refine Ev.step (fun k => by rw [hornbooklaw02_DescShown.j0, if_neg (by decide)]) ?_
    have hform : ∀ x, rightB x = true → showB x = baseTx (base x) ++ Lib.repeatL [91, 93] (rank x) := by
      intro x hx
      have e1 : ¬ x = [86] := by rintro rfl; revert hx; decide
      have e2 : ¬ x = [78] := by rintro rfl; revert hx; decide
      simp [showB, e1, e2, hx]
    rw [hform a hra, hform b hrb] at hs
    obtain ⟨_, ba⟩ := rightB_base hra
    obtain ⟨_, bb⟩ := rightB_base hrb
    obtain ⟨ht, hr⟩ := tail_inj _ _ _ _ (baseTx_91 ba) (baseTx_91 bb) hs
    have hbne : base a ≠ base b := fun e => hne (rank_base_inj a b hr e)
    have hcl : ∀ x y, nmOk x = true → nmOk y = false → plainB y = true → baseTx x = baseTx y → plainTx (classB x).1 ≠ plainTx (classB y).1 := by
      intro x y hx hy hp e
      have e1 : classB x = (nmText x, true) := by simp [classB, hx]
      have e2 : classB y = ([], false) := by simp [classB, hy]
      have e3 : baseTx x = nmText x := by simp [baseTx, hx]
      rw [e1, e2]
      show plainTx (nmText x) ≠ plainTx []
      rw [← e3, e]
      rcases plainB_ch hp with h | h | h <;> (subst h; decide)
    refine shown_l0 (rank a) a b rfl hr.symm ha' hb' ?_
    cases na : nmOk (base a) with
    | true =>
      cases nb : nmOk (base b) with
      | true =>
        exfalso
        have e3 : baseTx (base a) = nmText (base a) := by simp [baseTx, na]
        have e4 : baseTx (base b) = nmText (base b) := by simp [baseTx, nb]
        rw [e3, e4] at ht
        apply hbne
        rw [(nmOk_form na).1, (nmOk_form nb).1, ht]
      | false =>
        have hp : plainB (base b) = true := by rcases bb with h | h; rw [h] at nb; cases nb; exact h
        exact hcl _ _ na nb hp ht
    | false =>
      have hpa : plainB (base a) = true := by rcases ba with h | h; rw [h] at na; cases na; exact h
      cases nb : nmOk (base b) with
      | true => exact (hcl _ _ nb na hpa ht.symm).symm
      | false =>
        exfalso
        have hpb : plainB (base b) = true := by rcases bb with h | h; rw [h] at nb; cases nb; exact h
        revert ht hbne
        rcases plainB_ch hpa with h | h | h <;> rcases plainB_ch hpb with h' | h' | h' <;> (rw [h, h']; decide)
  · have e : (showB a != showB b) = true := by simp [hs]
    rw [e]; exact hj
end Go.Proofs.PL
