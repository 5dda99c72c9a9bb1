-- Written by the program wip/tools/mp.py of this work, which drives the print of the kit; hand texts of this session among it.
import Derived.Test.YtlnfaeegmcihfaaDoorG0
import Derived.Test.YtlnfaeegmcihfaaDoorG2
import Derived.Test.YtlnfaeegmcihfaaDoorG4
import Derived.Test.YtlnfaeegmcihfaaDoorG10
namespace Go.Proofs.YtlnfaeegmcihfaaDoor.G
open Go.RowKit Go.Proofs.HW Go.Proofs.YtlnfaeegmcihfaaDoorW.PrintWords Go.Proofs.YtlnfaeegmcihfaaDoorW.PrintLast
set_option linter.unusedVariables false
set_option linter.unusedSimpArgs false

-- HANDTEXT
/-! ### desc_Show: function 19, by hand -/
-- NEEDS hornbook/desc.bare
-- NEEDS hornbook/desc.Right
-- NEEDS hornbook/desc.name
-- NEEDS strings.Repeat
def desc_Show.base (s : ByteArray) (n : ByteArray × Bool) : Option ByteArray := if n.2 = true then some n.1 else if s = (⟨#[73]⟩ : ByteArray) then some (⟨#[105, 110, 116]⟩ : ByteArray) else if s = (⟨#[66]⟩ : ByteArray) then some (⟨#[98, 111, 111, 108]⟩ : ByteArray) else if s = (⟨#[83]⟩ : ByteArray) then some (⟨#[115, 116, 114]⟩ : ByteArray) else none
def desc_Show.f (k : Nat) (a0 : ByteArray) : Option (ByteArray) :=
  (desc_bare.f a0).bind fun b => if a0.toList = ([86] : List UInt8) then some (⟨#[117, 110, 105, 116]⟩ : ByteArray) else if a0.toList = ([78] : List UInt8) then some (⟨#[110, 117, 108, 108]⟩ : ByteArray) else
    (desc_Right.f k a0).bind fun t => if t = true then (desc_name.f k b.1).bind fun n => (desc_Show.base b.1 n).bind fun s => (strings_Repeat.f (⟨#[91, 93]⟩ : ByteArray) b.2).bind fun q => if s.size + q.size ≤ 9223372036854775807 then some (s ++ q) else none
    else some (⟨#[63]⟩ : ByteArray)
theorem desc_Show.mono : ∀ a0 k, LeO (desc_Show.f k a0) (desc_Show.f (k + 1) a0) := by
  intro a0 k
  unfold desc_Show.f
  refine LeO.bind (LeO.refl _) fun b => LeO.ite (LeO.refl _) (LeO.ite (LeO.refl _) (LeO.bind (desc_Right.mono a0 k) fun t => LeO.ite (LeO.bind (desc_name.mono b.1 k) fun n => LeO.refl _) (LeO.refl _)))
set_option maxHeartbeats 1000000 in
set_option maxRecDepth 100000 in
theorem desc_Show.calls (k : Nat) (a0 : ByteArray) (r : ByteArray) (w : World) (h : desc_Show.f k a0 = some r) :
    Calls Tryd.prog 19 #[.string a0] w fun e w' => e = .returned (.string r) ∧ Below w.heap.size w w' := by
  unfold desc_Show.f at h
  obtain ⟨⟨b1, b2⟩, hb, h⟩ := Option.bind_eq_some_iff.1 h
  have HB := Aside0.mk hb
  clear hb
  by_cases c1 : a0.toList = ([86] : List UInt8)
  · rw [if_pos c1] at h
    obtain rfl := Option.some.inj h
    have c1b : (a0.toList == ([86] : List UInt8)) = true := beq_iff_eq.mpr c1
    clear h c1
    go_enter Tryd.func19, Tryd.ntmps19
    go_wp2_with fail
    refine (desc_bare.calls a0 b1 b2 _ HB.out).mono ?_
    rintro e w' ⟨rfl, ⟨n1, rfl⟩⟩
    go_wp2
    go_ret
    exact ⟨rfl, pw_below_drewN (Below.refl _ _) _⟩
  rw [if_neg c1] at h
  have c1b : (a0.toList == ([86] : List UInt8)) = false := beq_eq_false_iff_ne.mpr c1
  by_cases c2 : a0.toList = ([78] : List UInt8)
  · rw [if_pos c2] at h
    obtain rfl := Option.some.inj h
    have c2b : (a0.toList == ([78] : List UInt8)) = true := beq_iff_eq.mpr c2
    clear h c2 c1
    go_enter Tryd.func19, Tryd.ntmps19
    go_wp2_with fail
    refine (desc_bare.calls a0 b1 b2 _ HB.out).mono ?_
    rintro e w' ⟨rfl, ⟨n1, rfl⟩⟩
    go_wp2
    go_ret
    exact ⟨rfl, pw_below_drewN (Below.refl _ _) _⟩
  rw [if_neg c2] at h
  have c2b : (a0.toList == ([78] : List UInt8)) = false := beq_eq_false_iff_ne.mpr c2
  obtain ⟨t, ht, h⟩ := Option.bind_eq_some_iff.1 h
  have HT := Aside0.mk ht
  clear ht c1 c2
  by_cases c3 : t = true
  · rw [if_pos c3] at h
    subst c3
    obtain ⟨⟨n1, n2⟩, hn, h⟩ := Option.bind_eq_some_iff.1 h
    have HN := Aside0.mk hn
    clear hn
    obtain ⟨s, hs, h⟩ := Option.bind_eq_some_iff.1 h
    obtain ⟨q, hq, h⟩ := Option.bind_eq_some_iff.1 h
    have HQ := Aside0.mk hq
    clear hq
    split at h
    case isFalse => cases h
    rename_i hsz
    obtain rfl := Option.some.inj h
    clear h
    unfold desc_Show.base at hs
    cases n2 with
    | true =>
      obtain rfl : n1 = s := by simpa using hs
      clear hs
      go_enter Tryd.func19, Tryd.ntmps19
      go_wp2_with fail
      refine (desc_bare.calls a0 b1 b2 _ HB.out).mono ?_
      rintro e w' ⟨rfl, ⟨m1, rfl⟩⟩
      go_wp2_with fail
      refine (desc_Right.calls k a0 true _ HT.out).mono ?_
      rintro e w' ⟨rfl, ⟨m2, rfl⟩⟩
      go_wp2_with fail
      refine (desc_name.calls k b1 n1 true _ HN.out).mono ?_
      rintro e w' ⟨rfl, ⟨m3, rfl⟩⟩
      go_wp2_with fail
      refine (strings_Repeat.calls (⟨#[91, 93]⟩ : ByteArray) b2 q _ HQ.out).mono ?_
      rintro e w' ⟨rfl, hB⟩
      have hB' := Aside0.mk hB
      clear hB
      have hz : (9223372036854775807 < n1.size + q.size) = False := eq_false (Nat.not_lt.2 hsz)
      go_wp2
      go_ret
      exact ⟨rfl, below_then (pw_below_drewN (Below.refl _ _) _) (by simp) hB'.out⟩
    | false =>
      simp only [Bool.false_eq_true, if_false] at hs
      split at hs
      case isTrue hb1 =>
        subst hb1
        obtain rfl := Option.some.inj hs
        clear hs
        have hmm := @run_makeMap Tryd.prog
        have hz : (9223372036854775807 < 3 + q.size) = False := eq_false (Nat.not_lt.2 hsz)
        go_enter Tryd.func19, Tryd.ntmps19
        go_wp2_with fail
        refine (desc_bare.calls a0 _ b2 _ HB.out).mono ?_
        rintro e w' ⟨rfl, ⟨m1, rfl⟩⟩
        go_wp2_with fail
        refine (desc_Right.calls k a0 true _ HT.out).mono ?_
        rintro e w' ⟨rfl, ⟨m2, rfl⟩⟩
        go_wp2_with fail
        refine (desc_name.calls k _ n1 false _ HN.out).mono ?_
        rintro e w' ⟨rfl, ⟨m3, rfl⟩⟩
        go_wp2_with (first | (refine HW.wpList_mput (ek := Value.string) (ev := Value.string) rfl (.tmp 29) (.const (.string ⟨#[73]⟩)) (.const (.string ⟨#[105, 110, 116]⟩)) (.inr rfl) (HW.strKey Tryd.underlying9) Tryd.underlying66 rfl (HW.MapIs.made _ _ _) (⟨#[73]⟩ : ByteArray) (⟨#[105, 110, 116]⟩ : ByteArray) rfl rfl ?_; intro w1 hm1 hg1) | (refine HW.wpList_mput (ek := Value.string) (ev := Value.string) rfl (.tmp 29) (.const (.string ⟨#[66]⟩)) (.const (.string ⟨#[98, 111, 111, 108]⟩)) (.inr rfl) (HW.strKey Tryd.underlying9) Tryd.underlying66 rfl hm1 (⟨#[66]⟩ : ByteArray) (⟨#[98, 111, 111, 108]⟩ : ByteArray) rfl rfl ?_; intro w2 hm2 hg2) | (refine HW.wpList_mput (ek := Value.string) (ev := Value.string) rfl (.tmp 29) (.const (.string ⟨#[83]⟩)) (.const (.string ⟨#[115, 116, 114]⟩)) (.inr rfl) (HW.strKey Tryd.underlying9) Tryd.underlying66 rfl hm2 (⟨#[83]⟩ : ByteArray) (⟨#[115, 116, 114]⟩ : ByteArray) rfl rfl ?_; intro w3 hm3 hg3) | (refine HW.wpList_mget (ek := Value.string) (ev := Value.string) rfl (.tmp 30) (.tmp 31) rfl (HW.strKey Tryd.underlying9) Tryd.underlying66 (z := .string (⟨#[]⟩ : ByteArray)) (fun w => by kernel_rfl) rfl hm3 (⟨#[73]⟩ : ByteArray) rfl (.string (⟨#[105, 110, 116]⟩ : ByteArray)) rfl ?_))
        have hs1 := hg1.size
        have hs2 := hg2.size
        have hs3 := hg3.size
        simp only [World.size_alloc] at hs1
        have hb0 : Below w.heap.size w ((w.drewN (m1 + m2 + m3)).alloc (.map #[] 0)) := (pw_below_drewN (Below.refl w.heap.size w) (m1 + m2 + m3)).alloc (by simp) _
        have hz0 : (w.drewN (m1 + m2 + m3)).heap.size = w.heap.size := by simp
        have hb3 : Below w.heap.size w w3 := ((hb0.grown hg1 (by simp) (by simp)).grown hg2 (by omega) (by simp)).grown hg3 (by omega) (by simp)
        have HB3 := Aside0.mk hb3
        have HZ := Aside0.mk (show w.heap.size ≤ w3.heap.size by omega)
        clear hg1 hg2 hg3 hm1 hm2 hm3 hs1 hs2 hs3 hb3 hb0 hz0
        refine (strings_Repeat.calls (⟨#[91, 93]⟩ : ByteArray) b2 q _ HQ.out).mono ?_
        rintro e w' ⟨rfl, hB⟩
        have hB' := Aside0.mk hB
        clear hB
        go_wp2
        go_ret
        exact ⟨rfl, below_then HB3.out HZ.out hB'.out⟩
      case isFalse =>
        split at hs
        case isTrue hb1 =>
          subst hb1
          obtain rfl := Option.some.inj hs
          clear hs
          have hmm := @run_makeMap Tryd.prog
          have hz : (9223372036854775807 < 4 + q.size) = False := eq_false (Nat.not_lt.2 hsz)
          go_enter Tryd.func19, Tryd.ntmps19
          go_wp2_with fail
          refine (desc_bare.calls a0 _ b2 _ HB.out).mono ?_
          rintro e w' ⟨rfl, ⟨m1, rfl⟩⟩
          go_wp2_with fail
          refine (desc_Right.calls k a0 true _ HT.out).mono ?_
          rintro e w' ⟨rfl, ⟨m2, rfl⟩⟩
          go_wp2_with fail
          refine (desc_name.calls k _ n1 false _ HN.out).mono ?_
          rintro e w' ⟨rfl, ⟨m3, rfl⟩⟩
          go_wp2_with (first | (refine HW.wpList_mput (ek := Value.string) (ev := Value.string) rfl (.tmp 29) (.const (.string ⟨#[73]⟩)) (.const (.string ⟨#[105, 110, 116]⟩)) (.inr rfl) (HW.strKey Tryd.underlying9) Tryd.underlying66 rfl (HW.MapIs.made _ _ _) (⟨#[73]⟩ : ByteArray) (⟨#[105, 110, 116]⟩ : ByteArray) rfl rfl ?_; intro w1 hm1 hg1) | (refine HW.wpList_mput (ek := Value.string) (ev := Value.string) rfl (.tmp 29) (.const (.string ⟨#[66]⟩)) (.const (.string ⟨#[98, 111, 111, 108]⟩)) (.inr rfl) (HW.strKey Tryd.underlying9) Tryd.underlying66 rfl hm1 (⟨#[66]⟩ : ByteArray) (⟨#[98, 111, 111, 108]⟩ : ByteArray) rfl rfl ?_; intro w2 hm2 hg2) | (refine HW.wpList_mput (ek := Value.string) (ev := Value.string) rfl (.tmp 29) (.const (.string ⟨#[83]⟩)) (.const (.string ⟨#[115, 116, 114]⟩)) (.inr rfl) (HW.strKey Tryd.underlying9) Tryd.underlying66 rfl hm2 (⟨#[83]⟩ : ByteArray) (⟨#[115, 116, 114]⟩ : ByteArray) rfl rfl ?_; intro w3 hm3 hg3) | (refine HW.wpList_mget (ek := Value.string) (ev := Value.string) rfl (.tmp 30) (.tmp 31) rfl (HW.strKey Tryd.underlying9) Tryd.underlying66 (z := .string (⟨#[]⟩ : ByteArray)) (fun w => by kernel_rfl) rfl hm3 (⟨#[66]⟩ : ByteArray) rfl (.string (⟨#[98, 111, 111, 108]⟩ : ByteArray)) rfl ?_))
          have hs1 := hg1.size
          have hs2 := hg2.size
          have hs3 := hg3.size
          simp only [World.size_alloc] at hs1
          have hb0 : Below w.heap.size w ((w.drewN (m1 + m2 + m3)).alloc (.map #[] 0)) := (pw_below_drewN (Below.refl w.heap.size w) (m1 + m2 + m3)).alloc (by simp) _
          have hz0 : (w.drewN (m1 + m2 + m3)).heap.size = w.heap.size := by simp
          have hb3 : Below w.heap.size w w3 := ((hb0.grown hg1 (by simp) (by simp)).grown hg2 (by omega) (by simp)).grown hg3 (by omega) (by simp)
          have HB3 := Aside0.mk hb3
          have HZ := Aside0.mk (show w.heap.size ≤ w3.heap.size by omega)
          clear hg1 hg2 hg3 hm1 hm2 hm3 hs1 hs2 hs3 hb3 hb0 hz0
          refine (strings_Repeat.calls (⟨#[91, 93]⟩ : ByteArray) b2 q _ HQ.out).mono ?_
          rintro e w' ⟨rfl, hB⟩
          have hB' := Aside0.mk hB
          clear hB
          go_wp2
          go_ret
          exact ⟨rfl, below_then HB3.out HZ.out hB'.out⟩
        case isFalse =>
          split at hs
          case isTrue hb1 =>
            subst hb1
            obtain rfl := Option.some.inj hs
            clear hs
            have hmm := @run_makeMap Tryd.prog
            have hz : (9223372036854775807 < 3 + q.size) = False := eq_false (Nat.not_lt.2 hsz)
            go_enter Tryd.func19, Tryd.ntmps19
            go_wp2_with fail
            refine (desc_bare.calls a0 _ b2 _ HB.out).mono ?_
            rintro e w' ⟨rfl, ⟨m1, rfl⟩⟩
            go_wp2_with fail
            refine (desc_Right.calls k a0 true _ HT.out).mono ?_
            rintro e w' ⟨rfl, ⟨m2, rfl⟩⟩
            go_wp2_with fail
            refine (desc_name.calls k _ n1 false _ HN.out).mono ?_
            rintro e w' ⟨rfl, ⟨m3, rfl⟩⟩
            go_wp2_with (first | (refine HW.wpList_mput (ek := Value.string) (ev := Value.string) rfl (.tmp 29) (.const (.string ⟨#[73]⟩)) (.const (.string ⟨#[105, 110, 116]⟩)) (.inr rfl) (HW.strKey Tryd.underlying9) Tryd.underlying66 rfl (HW.MapIs.made _ _ _) (⟨#[73]⟩ : ByteArray) (⟨#[105, 110, 116]⟩ : ByteArray) rfl rfl ?_; intro w1 hm1 hg1) | (refine HW.wpList_mput (ek := Value.string) (ev := Value.string) rfl (.tmp 29) (.const (.string ⟨#[66]⟩)) (.const (.string ⟨#[98, 111, 111, 108]⟩)) (.inr rfl) (HW.strKey Tryd.underlying9) Tryd.underlying66 rfl hm1 (⟨#[66]⟩ : ByteArray) (⟨#[98, 111, 111, 108]⟩ : ByteArray) rfl rfl ?_; intro w2 hm2 hg2) | (refine HW.wpList_mput (ek := Value.string) (ev := Value.string) rfl (.tmp 29) (.const (.string ⟨#[83]⟩)) (.const (.string ⟨#[115, 116, 114]⟩)) (.inr rfl) (HW.strKey Tryd.underlying9) Tryd.underlying66 rfl hm2 (⟨#[83]⟩ : ByteArray) (⟨#[115, 116, 114]⟩ : ByteArray) rfl rfl ?_; intro w3 hm3 hg3) | (refine HW.wpList_mget (ek := Value.string) (ev := Value.string) rfl (.tmp 30) (.tmp 31) rfl (HW.strKey Tryd.underlying9) Tryd.underlying66 (z := .string (⟨#[]⟩ : ByteArray)) (fun w => by kernel_rfl) rfl hm3 (⟨#[83]⟩ : ByteArray) rfl (.string (⟨#[115, 116, 114]⟩ : ByteArray)) rfl ?_))
            have hs1 := hg1.size
            have hs2 := hg2.size
            have hs3 := hg3.size
            simp only [World.size_alloc] at hs1
            have hb0 : Below w.heap.size w ((w.drewN (m1 + m2 + m3)).alloc (.map #[] 0)) := (pw_below_drewN (Below.refl w.heap.size w) (m1 + m2 + m3)).alloc (by simp) _
            have hz0 : (w.drewN (m1 + m2 + m3)).heap.size = w.heap.size := by simp
            have hb3 : Below w.heap.size w w3 := ((hb0.grown hg1 (by simp) (by simp)).grown hg2 (by omega) (by simp)).grown hg3 (by omega) (by simp)
            have HB3 := Aside0.mk hb3
            have HZ := Aside0.mk (show w.heap.size ≤ w3.heap.size by omega)
            clear hg1 hg2 hg3 hm1 hm2 hm3 hs1 hs2 hs3 hb3 hb0 hz0
            refine (strings_Repeat.calls (⟨#[91, 93]⟩ : ByteArray) b2 q _ HQ.out).mono ?_
            rintro e w' ⟨rfl, hB⟩
            have hB' := Aside0.mk hB
            clear hB
            go_wp2
            go_ret
            exact ⟨rfl, below_then HB3.out HZ.out hB'.out⟩
          case isFalse => cases hs
  · have c3 : t = false := by simpa using c3
    subst c3
    have h : some (⟨#[63]⟩ : ByteArray) = some r := h
    obtain rfl := Option.some.inj h
    clear h
    go_enter Tryd.func19, Tryd.ntmps19
    go_wp2_with fail
    refine (desc_bare.calls a0 b1 b2 _ HB.out).mono ?_
    rintro e w' ⟨rfl, ⟨m1, rfl⟩⟩
    go_wp2_with fail
    refine (desc_Right.calls k a0 false _ HT.out).mono ?_
    rintro e w' ⟨rfl, ⟨m2, rfl⟩⟩
    go_wp2
    go_ret
    exact ⟨rfl, pw_below_drewN (Below.refl _ _) _⟩

end Go.Proofs.YtlnfaeegmcihfaaDoor.G
