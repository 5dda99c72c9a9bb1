/- Layer 2, plain: whose class a type is, how it is shown, arrays and elements: program and reference. -/
import Derived.Test.YtlnfaeegmcihfaaDoorG10
import Derived.Test.YtlnfaeegmcihfaaDoorG11
import Derived.Test.YtlnfaeegmcihfaaDoorG12
import Derived.Test.YtlnfaeegmcihfaaDoorG14
import Derived.Test.YtlnfaeegmcihfaaDoorG15
import Derived.Test.YtlnfaeegmcihfaaDoorG16
import Derived.Test.YtlnfaeegmcihfaaDoorG17
import Derived.Test.YtlnfaeegmcihfaaDoorP2b
set_option linter.unusedVariables false
set_option linter.unusedSimpArgs false
namespace Go.Proofs.PL
open Go.RowKit Go.Proofs.YtlnfaeegmcihfaaDoorW.PrintWords Go.Proofs.YtlnfaeegmcihfaaDoor.G

theorem lit0 : (⟨#[]⟩ : ByteArray) = mk [] := rfl
theorem ch_cons (a : UInt8) (l : List UInt8) : ch (a :: l) 0 = a.toNat := by simp [ch]
theorem rank_zero {l : List UInt8} (h : ch l 0 ≠ 91) : rank l = 0 ∧ base l = l := by
  cases l with
  | nil => exact ⟨rfl, rfl⟩
  | cons a l =>
    rw [ch_cons] at h
    have ha : (a == (91 : UInt8)) = false := by rw [beq_toNat]; simpa using h
    unfold rank base
    simp [List.takeWhile_cons, List.dropWhile_cons, ha]
theorem rank_cons (l : List UInt8) : rank (91 :: l) = rank l + 1 ∧ base (91 :: l) = base l := by
  unfold rank base; simp
theorem ch_91 {l : List UInt8} (h : ch l 0 = 91) : ∃ t, l = 91 :: t := by
  cases l with
  | nil => simp [ch] at h
  | cons a t =>
    rw [ch_cons] at h
    exact ⟨t, by rw [UInt8.toNat_inj.1 (show a.toNat = (91 : UInt8).toNat from h)]⟩
theorem nmOk_form {l : List UInt8} (h : nmOk l = true) : l = 76 :: nmText l ++ [59] ∧ nameB (nmText l) = true := by
  obtain ⟨he, ht⟩ := refOk_eq l
  have hr : refOk l = true := by rw [he]; exact h
  have ht' := ht hr
  have hn : nameB (nmText l) = true := by unfold nmOk at h; simp at h; exact h.2
  refine ⟨?_, hn⟩
  unfold refOk at hr
  simp only [Bool.and_eq_true, decide_eq_true_eq] at hr
  obtain ⟨⟨⟨h2, h0⟩, h9⟩, _⟩ := hr
  rw [ht']
  have e1 := (ch_drop (l := l) (n := 0) (by omega)).1
  have e2 := ch_drop (l := l) (n := l.length - 1) (by omega)
  have a0 : l[0]'(by omega) = 76 := UInt8.toNat_inj.1 (by have := (ch_drop (l := l) (n := 0) (by omega)).2; rw [← this]; exact h0)
  have a9 : l[l.length - 1]'(by omega) = 59 := UInt8.toNat_inj.1 (by rw [← e2.2]; exact h9)
  have e3 : l.drop (l.length - 1 + 1) = [] := List.drop_eq_nil_of_le (by omega)
  rw [e3, a9] at e2
  have hs : l = l.take (l.length - 1) ++ [59] := by
    conv => lhs; rw [← List.take_append_drop (l.length - 1) l, e2.1]
  have ht2 : l.take (l.length - 1) = 76 :: (l.take (l.length - 1)).drop 1 := by
    have e4 := (ch_drop (l := l.take (l.length - 1)) (n := 0) (by simp; omega)).1
    rw [List.drop_zero] at e4
    conv => lhs; rw [e4]
    simp [a0]
  conv => lhs; rw [hs, ht2]
theorem nameB_le {l : List UInt8} (h : nameB l = true) : 1 ≤ l.length ∧ l.length ≤ 24 := by
  unfold nameB at h; simp at h; omega
theorem nmOk_ch {l : List UInt8} (h : nmOk l = true) : ch l 0 = 76 ∧ l.length = (nmText l).length + 2 := by
  obtain ⟨e, hn⟩ := nmOk_form h
  constructor
  · rw [e]; rfl
  · conv => lhs; rw [e]
    simp
theorem nmOk_of (t : List UInt8) (h : nameB t = true) : nmOk (76 :: t ++ [59]) = true ∧ nmText (76 :: t ++ [59]) = t := by
  have hl := nameB_le h
  have e1 : hasP (76 :: t ++ [59]) [76] = true := by rw [hasP_one]; simp [ch]
  have e2 : cutL (76 :: t ++ [59]) = t ++ [59] := by unfold cutL; rw [if_pos e1]; simp
  have e3 : hasS (t ++ [59]) [59] = true := by unfold hasS; simp
  have e4 : nmText (76 :: t ++ [59]) = t := by unfold nmText; rw [e2, if_pos e3]; simp
  refine ⟨?_, e4⟩
  unfold nmOk; rw [e1, e2, e3, e4, h]; rfl
theorem plainB_ch {l : List UInt8} (h : plainB l = true) : l = [73] ∨ l = [66] ∨ l = [83] := by
  unfold plainB at h; simp at h; rcases h with (h | h) | h <;> simp [h]
theorem rightB_len {l : List UInt8} (h : rightB l = true) : 0 < l.length ∧ l.length ≤ 30 := by
  have hb := rank_base l
  unfold rightB at h
  simp only [Bool.and_eq_true, Bool.or_eq_true, decide_eq_true_eq] at h
  obtain ⟨h4, h | h⟩ := h
  · have := nmOk_ch h
    have := nameB_le (nmOk_form h).2
    omega
  · rcases plainB_ch h with h | h | h <;> (rw [h] at hb; simp at hb; omega)
theorem rightB_ch {l : List UInt8} (h : rightB l = true) : (ch l 0 = 91 ∧ 0 < rank l) ∨ (rank l = 0 ∧ base l = l ∧ ((ch l 0 = 76 ∧ nmOk l = true) ∨ plainB l = true)) := by
  by_cases h9 : ch l 0 = 91
  · obtain ⟨t, rfl⟩ := ch_91 h9
    exact .inl ⟨h9, by rw [(rank_cons t).1]; omega⟩
  · obtain ⟨h1, h2⟩ := rank_zero h9
    refine .inr ⟨h1, h2, ?_⟩
    unfold rightB at h
    rw [h2] at h
    simp only [Bool.and_eq_true, Bool.or_eq_true] at h
    rcases h.2 with h | h
    · exact .inl ⟨(nmOk_ch h).1, h⟩
    · exact .inr h
theorem rightB_of_nmOk {l : List UInt8} (h : nmOk l = true) : rightB l = true := by
  obtain ⟨h1, h2⟩ := rank_zero (l := l) (by rw [(nmOk_ch h).1]; decide)
  unfold rightB; rw [h1, h2, h]; rfl

/-! ### Class, Ref, Of -/
def classB (l : List UInt8) : List UInt8 × Bool := if nmOk l then (nmText l, true) else ([], false)
theorem class_ev (l : List UInt8) (hl : l.length ≤ 9223372036854775806) : Ev (fun k => desc_Class.f k (mk l)) (mk (classB l).1, (classB l).2) := by
  unfold desc_Class.f
  refine Ev.bind (name_ev l hl) (Ev.ite (fun h => Ev.pure ?_) (fun h => Ev.pure ?_))
  · have h' : nmOk l = true := h
    simp [classB, h']
  · have h' : ¬ nmOk l = true := h
    simp [classB, h', lit0]
theorem refClass_ev (l : List UInt8) (hl : l.length ≤ 9223372036854775806) : Ev (fun k => hornbookref02_Class.f k (mk l)) (mk (classB l).1, (classB l).2) := by
  unfold hornbookref02_Class.f
  refine Ev.bind (refRight l hl) (Ev.ite (fun h => ?_) (fun h => Ev.pure ?_))
  · have hl2 := rightB_len h
    have hc := rightB_ch h
    simp only [size_mk]
    refine Ev.pos (by omega) ?_
    simp only [bt_mk l 0 0 rfl hl2.1]
    have hw : wrap64 ((l.length : Int) - 1) = ((l.length - 1 : Nat) : Int) := by rw [wrap_in _ (by omega) (by omega)]; omega
    rw [hw]
    refine Ev.ite (fun h7 => ?_) (fun h7 => Ev.pure ?_)
    · have hn : nmOk l = true := by
        rcases hc with ⟨h9, _⟩ | ⟨_, _, ⟨_, h⟩ | h⟩
        · omega
        · exact h
        · rcases plainB_ch h with h | h | h <;> (rw [h] at h7; simp [ch] at h7)
      have hlen := (nmOk_ch hn).2
      refine Ev.pos (by omega) (Ev.pos (by omega) (Ev.pure ?_))
      rw [Int.toNat_natCast, extract_mk]
      have := (refOk_eq l).2 (by rw [(refOk_eq l).1]; exact hn)
      simp [classB, hn, this]
    · have hn : ¬ nmOk l = true := by
        intro hn; have := (nmOk_ch hn).1; omega
      simp [classB, hn, lit0]
  · have hn : ¬ nmOk l = true := by
      intro hn; exact h (rightB_of_nmOk hn)
    simp [classB, hn, lit0]

def refB (l : List UInt8) : Bool := l == [78] || (rightB l && !(l == [73]) && !(l == [66]))
theorem ref_ev (l : List UInt8) (hl : l.length ≤ 9223372036854775806) : Ev (fun k => desc_Ref.f k (mk l)) (refB l) := by
  unfold desc_Ref.f
  simp only [toList_mk]
  refine Ev.ite (fun h => Ev.pure (by simp [refB, h])) (fun h => Ev.bind (right_ev l hl) (Ev.ite (fun h1 => Ev.ite (fun h2 => Ev.pure (by simp [refB, h2])) (fun h2 => Ev.pure ?_)) (fun h1 => Ev.pure (by simp [refB, h, h1]))))
  unfold refB
  have e1 : (l == [78]) = false := by simpa using h
  have e2 : (l == [73]) = false := by simpa using h2
  rw [e1, e2, show rightB l = true from h1]
  rfl
theorem refRef_ev (l : List UInt8) (hl : l.length ≤ 9223372036854775806) : Ev (fun k => hornbookref02_Ref.f k (mk l)) (refB l) := by
  unfold hornbookref02_Ref.f
  simp only [toList_mk, size_mk]
  refine Ev.ite (fun h => Ev.pure (by simp [refB, h])) (fun h => Ev.ite (fun h0 => Ev.pure (by rw [h0]; decide)) (fun h0 => Ev.bind (refRight l hl) (Ev.ite (fun h1 => ?_) (fun h1 => Ev.pure (by simp [refB, h, h1])))))
  have hl2 := rightB_len h1
  refine Ev.pos (by omega) ?_
  simp only [bt_mk l 0 0 rfl hl2.1]
  have hne : ∀ c : Nat, ch l 0 = c → c ≠ 73 → c ≠ 66 → refB l = true := by
    intro c hc h7 h6
    have a1 : ¬ l = [73] := by rintro rfl; exact h7 (hc.symm.trans rfl)
    have a2 : ¬ l = [66] := by rintro rfl; exact h6 (hc.symm.trans rfl)
    simp [refB, h1, a1, a2]
  refine Ev.ite (fun h7 => Ev.pure (by rw [hne 76 (by omega) (by decide) (by decide)])) (fun h7 => Ev.pure ?_)
  rcases rightB_ch h1 with ⟨h9, _⟩ | ⟨_, _, ⟨h, _⟩ | hp⟩
  · rw [hne 91 h9 (by decide) (by decide), h9]; rfl
  · omega
  · rcases plainB_ch hp with e | e | e
    · subst e; decide
    · subst e; decide
    · exact absurd e h0
theorem of_eq (l : List UInt8) (hl : l.length ≤ 140737488351232) : desc_Of.f (mk l) = some (mk (76 :: l ++ [59])) := by
  unfold desc_Of.f
  have e1 : (⟨#[76]⟩ : ByteArray) = mk [76] := rfl
  have e2 : (⟨#[59]⟩ : ByteArray) = mk [59] := rfl
  rw [e1, e2, append_mk, append_mk, size_mk, size_mk, if_pos (by omega), if_pos (by simp; omega)]
  simp

/-! ### Show -/
def baseTx (l : List UInt8) : List UInt8 := if nmOk l then nmText l else if l = [73] then [105, 110, 116] else if l = [66] then [98, 111, 111, 108] else [115, 116, 114]
def showB (l : List UInt8) : List UInt8 := if l = [86] then [117, 110, 105, 116] else if l = [78] then [110, 117, 108, 108] else if rightB l then baseTx (base l) ++ Lib.repeatL [91, 93] (rank l) else [63]
theorem baseTx_le (l : List UInt8) : (baseTx l).length ≤ 24 := by
  unfold baseTx
  split
  · rename_i h; exact (nameB_le (nmOk_form h).2).2
  · split
    · decide
    · split <;> decide
theorem rightB_base {l : List UInt8} (h : rightB l = true) : rank l ≤ 4 ∧ (nmOk (base l) = true ∨ plainB (base l) = true) := by
  unfold rightB at h; simpa using h
theorem show_ev (l : List UInt8) (hl : l.length ≤ 9223372036854775806) : Ev (fun k => desc_Show.f k (mk l)) (mk (showB l)) := by
  unfold desc_Show.f
  refine Ev.then (bare_eq l hl) ?_
  simp only [toList_mk]
  refine Ev.ite (fun h1 => Ev.pure (by simp [showB, h1]; rfl)) (fun h1 => Ev.ite (fun h2 => Ev.pure (by simp [showB, h2]; rfl)) (fun h2 => ?_))
  refine Ev.bind (right_ev l hl) (Ev.ite (fun h3 => ?_) (fun h3 => Ev.pure (by simp [showB, h1, h2, h3]; rfl)))
  have hr := rightB_base h3
  have hbl := base_le l
  refine Ev.bind (name_ev (base l) (by omega)) ?_
  have hs : desc_Show.base (mk (base l)) (mk (nmText (base l)), nmOk (base l)) = some (mk (baseTx (base l))) := by
    unfold desc_Show.base baseTx
    by_cases h : nmOk (base l) = true
    · simp [h]
    · have hp : plainB (base l) = true := by rcases hr.2 with h' | h'; exact absurd h' h; exact h'
      have n1 : mk [73] ≠ mk [66] := by rw [Ne, mk_inj]; decide
      rcases plainB_ch hp with e | e | e
      · rw [e] at h ⊢; simp only [h]; rfl
      · rw [e] at h ⊢; simp only [h]; rfl
      · rw [e] at h ⊢; simp only [h]; rfl
  refine Ev.then hs (Ev.then (a := mk (Lib.repeatL [91, 93] (rank l))) ?_ (Ev.pos ?_ (Ev.pure ?_)))
  · unfold strings_Repeat.f
    have e : (⟨#[91, 93]⟩ : ByteArray) = mk [91, 93] := rfl
    rw [e, size_mk, data_mk, Int.toNat_natCast, if_pos (by simp; omega)]
    rfl
  · have := baseTx_le (base l)
    rw [size_mk, size_mk, Lib.repeatL_length]
    simp; omega
  · rw [append_mk]; simp [showB, h1, h2, h3]
theorem repeatL_snoc (l : List UInt8) : ∀ c, Lib.repeatL l (c + 1) = Lib.repeatL l c ++ l
  | 0 => by simp [Lib.repeatL]
  | c + 1 => by
    show l ++ Lib.repeatL l (c + 1) = (l ++ Lib.repeatL l c) ++ l
    rw [repeatL_snoc l c, List.append_assoc]
theorem refShow_ev : ∀ n (l : List UInt8), rank l ≤ n → l.length ≤ 9223372036854775806 → Ev (fun k => hornbookref02_Show.f k (mk l)) (mk (showB l)) := by
  intro n
  induction n with
  | zero =>
    intro l hn hl
    refine Ev.step (fun k => by rw [hornbookref02_Show.f]) ?_
    simp only [toList_mk, size_mk]
    refine Ev.ite (fun h => Ev.pure (by subst h; decide)) (fun a1 => Ev.ite (fun h => Ev.pure (by subst h; decide)) (fun a2 => Ev.ite (fun h => Ev.pure (by subst h; decide)) (fun a3 => Ev.ite (fun h => Ev.pure (by subst h; decide)) (fun a4 => Ev.ite (fun h => Ev.pure (by subst h; decide)) (fun a5 => ?_)))))
    refine Ev.bind (refRight l hl) (Ev.ite (fun h1 => ?_) (fun h1 => Ev.pure (by simp [showB, a4, a5, h1]; rfl)))
    have hl2 := rightB_len h1
    refine Ev.pos (by omega) ?_
    simp only [bt_mk l 0 0 rfl hl2.1]
    have hw : wrap64 ((l.length : Int) - 1) = ((l.length - 1 : Nat) : Int) := by rw [wrap_in _ (by omega) (by omega)]; omega
    rw [hw]
    rcases rightB_ch h1 with ⟨h9, h0⟩ | ⟨r0, b0, ⟨h76, hn⟩ | hp⟩
    · omega
    · have hlen := (nmOk_ch hn).2
      refine Ev.neg (by omega) (Ev.pos (by omega) (Ev.pos (by omega) (Ev.pure ?_)))
      rw [Int.toNat_natCast, extract_mk, ← (refOk_eq l).2 (by rw [(refOk_eq l).1]; exact hn)]
      simp [showB, a4, a5, h1, b0, r0, baseTx, hn, Lib.repeatL]
    · rcases plainB_ch hp with e | e | e
      · exact absurd e a1
      · exact absurd e a2
      · exact absurd e a3
  | succ n ih =>
    intro l hn hl
    by_cases hlt : rank l ≤ n
    · exact ih l hlt hl
    have h91 : ch l 0 = 91 := by
      by_cases h : ch l 0 = 91
      · exact h
      · have := (rank_zero h).1; omega
    obtain ⟨t, rfl⟩ := ch_91 h91
    obtain ⟨hr1, hb1⟩ := rank_cons t
    refine Ev.step (fun k => by rw [hornbookref02_Show.f]) ?_
    simp only [toList_mk, size_mk]
    refine Ev.neg (by simp) (Ev.neg (by simp) (Ev.neg (by simp) (Ev.neg (by simp) (Ev.neg (by simp) ?_))))
    refine Ev.bind (refRight (91 :: t) hl) (Ev.ite (fun h1 => ?_) (fun h1 => Ev.pure (by simp [showB, h1]; rfl)))
    refine Ev.pos (by first | (simp; done) | (simp; omega)) ?_
    simp only [bt_mk (91 :: t) 0 0 rfl (by simp), h91]
    refine Ev.pos (by simp) (Ev.pos (by first | (simp; done) | (simp; omega)) ?_)
    have et : (mk (91 :: t)).extract 1 (91 :: t).length = mk t := by rw [extract_mk, List.take_length]; simp
    rw [et]
    have ht : rightB t = true := by
      unfold rightB at h1 ⊢
      rw [hr1, hb1] at h1
      simp at h1 ⊢
      exact ⟨by omega, h1.2⟩
    have hr4 := (rightB_base h1).1
    refine Ev.bind (ih t (by omega) (by simp at hl; omega)) (Ev.pos ?_ (Ev.pure ?_))
    · have e1 : ¬ t = [86] := by rintro rfl; revert ht; decide
      have e2 : ¬ t = [78] := by rintro rfl; revert ht; decide
      have := baseTx_le (base t)
      rw [size_mk]
      simp only [showB, e1, e2, if_false, ht, if_true, List.length_append, Lib.repeatL_length]
      simp; omega
    · have e1 : ¬ t = [86] := by rintro rfl; revert ht; decide
      have e2 : ¬ t = [78] := by rintro rfl; revert ht; decide
      have e3 : (⟨#[91, 93]⟩ : ByteArray) = mk [91, 93] := rfl
      rw [e3, append_mk]
      have e4 : showB t = baseTx (base t) ++ Lib.repeatL [91, 93] (rank t) := by simp [showB, e1, e2, ht]
      have e5 : showB (91 :: t) = baseTx (base t) ++ Lib.repeatL [91, 93] (rank t + 1) := by simp [showB, h1, hr1, hb1]
      rw [e4, e5, repeatL_snoc, List.append_assoc]

/-! ### Array, Elem -/
def arrayB (l : List UInt8) : List UInt8 × Int := if rightB l then (if rank l = 4 then ([], 27) else (91 :: l, 0)) else ([], 10)
def elemB (l : List UInt8) : List UInt8 × Int := if rightB l && hasP l [91] then (l.drop 1, 0) else ([], 10)
theorem array_ev (l : List UInt8) (hl : l.length ≤ 140737488351232) : Ev (fun k => desc_Array.f k (mk l)) (mk (arrayB l).1, (arrayB l).2) := by
  unfold desc_Array.f
  refine Ev.then (bare_eq l (by omega)) (Ev.bind (right_ev l (by omega)) (Ev.ite (fun h => Ev.ite (fun h4 => Ev.pure ?_) (fun h4 => Ev.pos (by rw [size_mk]; omega) (Ev.pure ?_))) (fun h => Ev.pure ?_)))
  · have h4' : rank l = 4 := by simp at h4; omega
    simp [arrayB, h, h4', lit0]
  · have h4' : ¬ rank l = 4 := by simp at h4; omega
    have e : (⟨#[91]⟩ : ByteArray) = mk [91] := rfl
    rw [e, append_mk]
    simp [arrayB, h, h4']
  · simp [arrayB, h, lit0]
theorem rightB_91 {l : List UInt8} (h : rightB l = true) : rightB (91 :: l) = decide (¬ rank l = 4) := by
  obtain ⟨h1, h2⟩ := rightB_base h
  unfold rightB
  rw [(rank_cons l).1, (rank_cons l).2]
  have : (nmOk (base l) || plainB (base l)) = true := by simpa using h2
  rw [this, Bool.and_true, Bool.eq_iff_iff]
  simp; omega
theorem refArray_ev (l : List UInt8) (hl : l.length ≤ 140737488351232) : Ev (fun k => hornbookref02_Array.f k (mk l)) (mk (arrayB l).1, (arrayB l).2) := by
  unfold hornbookref02_Array.f
  have e : (⟨#[91]⟩ : ByteArray) = mk [91] := rfl
  simp only [e, append_mk]
  refine Ev.bind (refRight l (by omega)) (Ev.ite (fun h => Ev.pos (by rw [size_mk]; omega) (Ev.bind (refRight ([91] ++ l) (by simp; omega)) (Ev.ite (fun h4 => Ev.pure ?_) (fun h4 => Ev.pure ?_)))) (fun h => Ev.pure ?_))
  · have h4' : ¬ rank l = 4 := by have := (rightB_91 h).symm.trans h4; simpa using this
    simp [arrayB, h, h4']
  · have h4' : rank l = 4 := by
      have e2 := rightB_91 h
      have : rightB (91 :: l) = false := by simpa using h4
      rw [this] at e2
      have := e2.symm
      simpa using this
    simp [arrayB, h, h4', lit0]
  · simp [arrayB, h, lit0]
theorem elem_ev (l : List UInt8) (hl : l.length ≤ 9223372036854775806) : Ev (fun k => desc_Elem.f k (mk l)) (mk (elemB l).1, (elemB l).2) := by
  unfold desc_Elem.f
  refine Ev.then (cutPrefix_eq l [91]) ?_
  by_cases h : hasP l [91] = true
  · rw [if_pos h]
    refine Ev.pos rfl (Ev.bind (right_ev l hl) (Ev.ite (fun h1 => Ev.pure ?_) (fun h1 => Ev.pure ?_)))
    · simp [elemB, h, h1]
    · simp [elemB, h1, lit0]
  · rw [if_neg h]
    refine Ev.neg (by simp) (Ev.pure ?_)
    simp [elemB, h, lit0]
theorem refElem_ev (l : List UInt8) (hl : l.length ≤ 9223372036854775806) : Ev (fun k => hornbookref02_Elem.f k (mk l)) (mk (elemB l).1, (elemB l).2) := by
  unfold hornbookref02_Elem.f
  simp only [size_mk]
  refine Ev.bind (refRight l hl) (Ev.ite (fun h1 => ?_) (fun h1 => Ev.pure (by simp [elemB, h1, lit0])))
  have hl2 := rightB_len h1
  have hp := hasP_one l 91
  refine Ev.pos (by omega) ?_
  simp only [bt_mk l 0 0 rfl hl2.1]
  refine Ev.ite (fun h9 => Ev.pos (by omega) (Ev.pure ?_)) (fun h9 => Ev.pure ?_)
  · have h : hasP l [91] = true := by rw [hp]; simp; exact ⟨hl2.1, by omega⟩
    rw [extract_mk, List.take_length]
    simp [elemB, h, h1]
  · have h : hasP l [91] = false := by rw [hp]; simp; intro _; omega
    simp [elemB, h, lit0]
end Go.Proofs.PL
