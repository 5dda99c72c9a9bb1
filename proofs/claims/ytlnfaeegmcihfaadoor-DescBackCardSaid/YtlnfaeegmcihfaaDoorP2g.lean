/- Layer 2, plain: the laws of what a method gives and takes. -/
import Derived.Test.YtlnfaeegmcihfaaDoorG19
import Derived.Test.YtlnfaeegmcihfaaDoorG22
import Derived.Test.YtlnfaeegmcihfaaDoorP2e
set_option linter.unusedVariables false
set_option linter.unusedSimpArgs false
namespace Go.Proofs.PL
open Go.RowKit Go.Proofs.YtlnfaeegmcihfaaDoorW.PrintWords Go.Proofs.YtlnfaeegmcihfaaDoor.G

theorem sigB_len (us : List (List UInt8)) (g : List UInt8) (l : List UInt8) (h : sigB g us = (l, 0)) : us.length ≤ 6 := by
  unfold sigB at h
  split at h
  · simp at h
  · omega
theorem descSigs (g : List UInt8) (ts : List (List UInt8)) (s : List UInt8) (hg : g.length ≤ 9223372036854775806) (hts : ∀ t ∈ ts, t.length ≤ 9223372036854775806) (hs : s.length ≤ 9223372036854775806) :
    Ev (fun k => hornbooklaw02_DescSigs.f k (mk g) (mks ts) (mk s)) true := by
  obtain ⟨us, g', e, i1, i2, i3⟩ := split_both s hs
  have hu : us.length ≤ 9223372036854775806 := by
    rcases i3 with ⟨_, h⟩ | ⟨_, _, h, _⟩
    · have := sigB_len us g' s h; omega
    · rw [h]; simp
  unfold hornbooklaw02_DescSigs.f
  refine Ev.bind (sig_ev g ts hg hts) (Ev.bind (refSig_ev g ts hg hts) (Ev.bind i1 (Ev.bind i2 (Ev.pos rfl (Ev.pos rfl (Ev.pos rfl (Ev.bind (texts_ev us us hu) (Ev.pos (by simp) (Ev.pos rfl (Ev.bind known02 (Ev.pure rfl)))))))))))

theorem back_j0 (s : List UInt8) (hs : s.length ≤ 9223372036854775806) : Ev (fun k => hornbooklaw02_DescBack.j0 k (mk s)) true := by
  obtain ⟨us, g', e, i1, i2, i3⟩ := split_both s hs
  refine Ev.step (fun k => by rw [hornbooklaw02_DescBack.j0]) ?_
  refine Ev.bind i1 (Ev.ite (fun h => ?_) (fun _ => Ev.bind known02 (Ev.pure rfl)))
  rcases i3 with ⟨rfl, hq⟩ | ⟨rfl, _, _, _⟩
  · have hl : us.all rightB = true ∧ gOk g' = true := by
      unfold sigB at hq
      split at hq
      · simp at hq
      · split at hq
        · rename_i h2; simpa using h2
        · simp at hq
    have hsig := sig_ev g' us (by have := gOk_len hl.2; omega) (fun t ht => by have := (rightB_len (List.all_eq_true.1 hl.1 t ht)).2; omega)
    rw [hq] at hsig
    exact Ev.bind hsig (Ev.pos rfl (Ev.pos rfl (Ev.bind known02 (Ev.pure rfl))))
  · cases h
theorem descBack (g : List UInt8) (ts : List (List UInt8)) (s : List UInt8) (hg : g.length ≤ 9223372036854775806) (hts : ∀ t ∈ ts, t.length ≤ 9223372036854775806) (hs : s.length ≤ 9223372036854775806) :
    Ev (fun k => hornbooklaw02_DescBack.f k (mk g) (mks ts) (mk s)) true := by
  unfold hornbooklaw02_DescBack.f
  refine Ev.bind (sig_ev g ts hg hts) (Ev.ite (fun h => ?_) (fun _ => back_j0 s hs))
  have hok : sigB g ts = ((sigB g ts).1, 0) := by
    have h' : (sigB g ts).2 = 0 := h
    rw [← h']
  have hlen : (sigB g ts).1.length ≤ 9223372036854775806 ∧ ts.length ≤ 6 := by
    have h6 := sigB_len ts g _ hok
    unfold sigB
    split
    · simp; omega
    · split
      · rename_i h2
        simp only [Bool.and_eq_true] at h2
        have := flat_len ts h2.1
        have := gOk_len h2.2
        unfold sigTx
        simp only [List.length_cons, List.length_append]
        omega
      · simp; omega
  have hsp := (split_of_sig hlen.1 hok).1
  refine Ev.bind hsp (Ev.pos rfl (Ev.bind (texts_ev ts ts (by omega)) (Ev.pos (by simp) (Ev.pos rfl (back_j0 s hs)))))
end Go.Proofs.PL
