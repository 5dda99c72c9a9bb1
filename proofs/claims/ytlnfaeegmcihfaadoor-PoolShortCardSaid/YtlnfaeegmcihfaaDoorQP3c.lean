/- Layer 3: which constants can be; their bytes. -/
import Derived.Test.YtlnfaeegmcihfaaDoorQ12
import Derived.Test.YtlnfaeegmcihfaaDoorQ17
import Derived.Test.YtlnfaeegmcihfaaDoorQ18
import Derived.Test.YtlnfaeegmcihfaaDoorQ24
import Derived.Test.YtlnfaeegmcihfaaDoorQ9
import Derived.Test.YtlnfaeegmcihfaaDoorQP3b
import Derived.Test.YtlnfaeegmcihfaaDoorQP2e
set_option linter.unusedVariables false
set_option linter.unusedSimpArgs false
namespace Go.Proofs.PL
open Go.RowKit Go.Proofs.YtlnfaeegmcihfaaDoorW.PrintWords Go.Proofs.YtlnfaeegmcihfaaDoor.Q

theorem gOk_30 {g : List UInt8} (h : gOk g = true) : g.length ≤ 30 := by
  unfold gOk at h
  rcases Bool.or_eq_true _ _ ▸ h with h | h
  · have : g = [86] := by simpa using h
    rw [this]; decide
  · exact (rightB_len h).2
theorem flat_30 : ∀ (us : List (List UInt8)), us.all rightB = true → us.flatten.length ≤ us.length * 30
  | [], _ => by simp
  | x :: us, h => by
    simp only [List.all_cons, Bool.and_eq_true] at h
    have := flat_30 us h.2
    have := (rightB_len h.1).2
    simp only [List.flatten_cons, List.length_append, List.length_cons]
    omega
theorem sig_212 {us : List (List UInt8)} {g l : List UInt8} (h : sigB g us = (l, 0)) : l.length ≤ 212 := by
  unfold sigB at h
  split at h
  · simp at h
  · rename_i h6
    split at h
    · rename_i h2
      simp only [Bool.and_eq_true] at h2
      simp only [Prod.mk.injEq, and_true] at h
      rw [← h]
      have := flat_30 us h2.1
      have := gOk_30 h2.2
      simp only [sigTx, List.length_cons, List.length_append]
      omega
    · simp at h
def Fit (kind n : Int) (s t u : List UInt8) : Prop :=
  (kind = 1 ∧ s = [] ∧ t = [] ∧ u = []) ∨ (kind = 2 ∧ n = 0 ∧ t = [] ∧ u = [] ∧ s.length ≤ 64) ∨ (kind = 3 ∧ n = 0 ∧ t = [] ∧ u = [] ∧ s.length ≤ 256) ∨
  ((kind = 4 ∨ kind = 5) ∧ n = 0 ∧ s.length ≤ 256 ∧ t.length ≤ 256 ∧ u.length ≤ 256)
theorem isEmpty_mk (l : List UInt8) : (mk l).toList.isEmpty = true ↔ l = [] := by rw [toList_mk]; simp
theorem poolRight_ev (kind n : Int) (s t u : List UInt8) (hs : s.length ≤ 9223372036854775806) (ht : t.length ≤ 9223372036854775806) (hu : u.length ≤ 9223372036854775806) :
    ∃ b : Bool, Ev (fun k => pool_Right.f k kind n (mk s) (mk t) (mk u)) b ∧ (b = true → Fit kind n s t u) := by
  unfold pool_Right.f
  by_cases h1 : kind = 1
  · refine ⟨_, Ev.pos h1 (Ev.pure rfl), fun h => .inl ⟨h1, ?_⟩⟩
    simp only [Bool.and_eq_true, isEmpty_mk] at h
    exact h
  by_cases h23 : kind = 2 ∨ kind = 3
  · by_cases he : (n == 0 && ((mk t).toList.isEmpty && (mk u).toList.isEmpty)) = true
    · have he' := he
      simp only [Bool.and_eq_true, isEmpty_mk, beq_iff_eq] at he'
      by_cases h2 : kind = 2
      · refine ⟨decide (s.length ≤ 64), Ev.neg h1 (Ev.pos h23 (Ev.pos he (Ev.pos h2 (Ev.pure (by rw [size_mk]))))), fun h => .inr (.inl ⟨h2, he'.1, he'.2.1, he'.2.2, by simpa using h⟩)⟩
      · refine ⟨rightB s, Ev.neg h1 (Ev.pos h23 (Ev.pos he (Ev.neg h2 (right_ev s hs)))), fun h => .inr (.inr (.inl ⟨by omega, he'.1, he'.2.1, he'.2.2, by have := (rightB_len h).2; omega⟩))⟩
    · exact ⟨false, Ev.neg h1 (Ev.pos h23 (Ev.neg he (Ev.pure rfl))), fun h => by cases h⟩
  by_cases h45 : kind = 4 ∨ kind = 5
  · obtain ⟨us, g, e, i1, _, i3⟩ := split_both u hu
    have hok : ∃ ok : Bool, Ev (fun k => if kind = 4 then desc_Right.f k (mk u) else some (decide (e = 0))) ok ∧ (ok = true → u.length ≤ 256) := by
      by_cases h4 : kind = 4
      · exact ⟨rightB u, Ev.pos h4 (right_ev u hu), fun h => by have := (rightB_len h).2; omega⟩
      · refine ⟨decide (e = 0), Ev.neg h4 (Ev.pure rfl), fun h => ?_⟩
        rcases i3 with ⟨_, hq⟩ | ⟨he, _⟩
        · have := sig_212 hq; omega
        · rw [he] at h; simp at h
    obtain ⟨ok, hok, hl⟩ := hok
    have base : ∀ b, Ev (fun k => if ok = true then (if n = 0 then (bin_Name.f k (mk s)).bind fun n => if n = true then bin_Name.f k (mk t) else some false else some false) else some false) b →
        Ev (fun k => if kind = 1 then some ((mk s).toList.isEmpty && ((mk t).toList.isEmpty && (mk u).toList.isEmpty)) else if kind = 2 ∨ kind = 3 then (if (n == 0 && ((mk t).toList.isEmpty && (mk u).toList.isEmpty)) = true then (if kind = 2 then some (decide ((mk s).size ≤ 64)) else desc_Right.f k (mk s)) else some false)
          else if kind = 4 ∨ kind = 5 then (desc_Split.f k (mk u)).bind fun sp => (if kind = 4 then desc_Right.f k (mk u) else some (decide (sp.2.2 = 0))).bind fun ok => if ok = true then (if n = 0 then (bin_Name.f k (mk s)).bind fun n => if n = true then bin_Name.f k (mk t) else some false else some false) else some false
          else some false) b := fun b h => Ev.neg h1 (Ev.neg h23 (Ev.pos h45 (Ev.bind i1 (Ev.bind hok h))))
    cases ok with
    | false => exact ⟨false, base _ (Ev.neg (by decide) (Ev.pure rfl)), fun h => by cases h⟩
    | true =>
      by_cases hn : n = 0
      · cases hns : nameB s with
        | false => exact ⟨false, base _ (Ev.pos rfl (Ev.pos hn (Ev.bind (hns ▸ binName s hs) (Ev.neg (by decide) (Ev.pure rfl))))), fun h => by cases h⟩
        | true =>
          refine ⟨nameB t, base _ (Ev.pos rfl (Ev.pos hn (Ev.bind (hns ▸ binName s hs) (Ev.pos rfl (binName t ht))))), fun h => .inr (.inr (.inr ⟨h45, hn, by have := (nameB_le hns).2; omega, by have := (nameB_le h).2; omega, hl rfl⟩))⟩
      · exact ⟨false, base _ (Ev.pos rfl (Ev.neg hn (Ev.pure rfl))), fun h => by cases h⟩
  · exact ⟨false, Ev.neg h1 (Ev.neg h23 (Ev.neg h45 (Ev.pure rfl))), fun h => by cases h⟩
end Go.Proofs.PL
