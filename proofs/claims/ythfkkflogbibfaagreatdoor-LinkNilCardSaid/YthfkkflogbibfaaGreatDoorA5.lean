/- The abstract machine: operations that look at no memory are run by the model as the machine runs them (3). -/
import Derived.Test.YthfkkflogbibfaaGreatDoorA4
namespace Go.Proofs.YthfkkflogbibfaaGreatDoor.AM
set_option linter.unusedSectionVars false
set_option linter.unusedVariables false
set_option linter.unusedSimpArgs false

section
variable {F : Area} {ρ : Rho} {w : World}

theorem add0 (B o n : Nat) : (⟨B, o, none⟩ : Addr).add n = ⟨B, o + n, none⟩ := by
  unfold Addr.add; split <;> simp_all

theorem run_bound {P : Program} {v : Value} {y : AV} {n : Nat} {d : Nat} (h : boundA (some y) d = .ok n) (hc : CR F ρ w v y) {top : Nat} (hle : n ≤ top) (code : BoundsCode) (w' : World) : (Instr.sliceBound v top code).run P w' = .ok n w' := by
  obtain ⟨i, hi, h⟩ := R.bind_ok h
  split at h <;> cases h
  rename_i h0
  obtain ⟨k, rfl⟩ := intA_eq hi hc
  simp only [Instr.sliceBound, asIntOf, Sem.run_bind, Sem.run_pure, Result.andThen_ok, Sem.run_ite]
  rw [if_pos ⟨h0, by omega⟩]

theorem run_bounds {P : Program} {isS : Bool} {len cap : Nat} {lo hi mx : Option Value} {alo ahi amx : Option AV} {l h m : Nat} (hlo : CRo F ρ w lo alo) (hhi : CRo F ρ w hi ahi) (hmx : CRo F ρ w mx amx)
    (h1 : boundA alo 0 = .ok l) (h2 : boundA ahi len = .ok h) (h3 : boundA amx cap = .ok m) (h4 : l ≤ h) (h5 : h ≤ m) (h6 : m ≤ cap) (h7 : amx.isNone ∨ ahi.isSome) (w' : World) :
    (Instr.sliceBounds isS len cap lo hi mx).run P w' = .ok (l, h, m) w' := by
  unfold Instr.sliceBounds
  cases mx <;> cases amx <;> simp only [CRo] at hmx <;> cases hi <;> cases ahi <;> simp only [CRo] at hhi <;> cases lo <;> cases alo <;> simp only [CRo] at hlo
  all_goals first | (simp at h7; done) | skip
  all_goals (try cases h1) <;> (try cases h2) <;> (try cases h3)
  all_goals simp only [Sem.run_bind, Sem.run_pure, Result.andThen_ok]
  all_goals try rw [run_bound h3 hmx h6 _ w', Result.andThen_ok]
  all_goals try rw [run_bound h2 hhi h5 _ w', Result.andThen_ok]
  all_goals try rw [run_bound h1 hlo h4 _ w', Result.andThen_ok]

theorem Elems.cut {cs : Array Value} {o sz : Nat} {l : List AV} (h : Elems F ρ w cs o sz l) (a n : Nat) : Elems F ρ w cs (o + a * sz) sz ((l.drop a).take n) := by
  refine ⟨fun x hx => h.1 x (List.mem_of_mem_drop (List.mem_of_mem_take hx)), ?_⟩
  have hd : ∀ x, x ∈ l.drop a → x.cells.length = sz := fun x hx => h.1 x (List.mem_of_mem_drop hx)
  rw [← flat_take hd, ← flat_drop h.1]
  have := (h.2.drop (a * sz)).take (((l.drop a).take n).length * sz)
  rw [List.drop_take, List.drop_drop, List.take_take] at this
  have hle : ((l.drop a).take n).length * sz ≤ l.length * sz - a * sz := by
    rw [← Nat.sub_mul]; exact Nat.mul_le_mul_right _ (by simp; omega)
  rw [Nat.min_eq_left hle] at this
  have e : ((flat l).drop (a * sz)).take (((l.drop a).take n).length * sz) = ((flat l).drop (a * sz)).take (n * sz) := by
    rw [flat_drop h.1]
    by_cases hn : n ≤ (l.drop a).length
    · rw [List.length_take, Nat.min_eq_left hn]
    · rw [List.length_take, Nat.min_eq_right (by omega), ← flat_length hd, List.take_length, List.take_of_length_le]
      rw [flat_length hd]; exact Nat.mul_le_mul_right _ (by omega)
  rw [e] at this; exact this

theorem CRo.some_of {v : Option Value} {y : Option AV} (h : CRo F ρ w v y) : v.isSome = y.isSome := by
  cases v <;> cases y <;> simp_all [CRo]

/-- a slice of a slice. -/
theorem cutA_cr {v : Value} {x y : AV} {l h n : Nat} {cut : Bool} (hx : CR F ρ w v x) (hn : lenA x = .ok n) {s : Nat} (hs : szA x s = true) (hy : cutA x l h n cut = .ok y) (h1 : l ≤ h) (h2 : h ≤ n) :
    ∃ b c, v = .slice b n c ∧ n ≤ c ∧ ∀ m, m = (if cut then h else c) → CR F ρ w (.slice (if m = l then b else b.map (·.add (l * s))) (h - l) (m - l)) y := by
  cases hx with
  | nils =>
    cases hn; cases hy
    obtain rfl : h = 0 := by omega
    obtain rfl : l = 0 := by omega
    exact ⟨none, 0, rfl, Nat.le_refl _, fun m hm => by cases cut <;> simp at hm <;> subst hm <;> exact .nils⟩
  | @lst0 base _ _ ht =>
    cases hn; cases hy
    obtain rfl : h = 0 := by simp at h2; omega
    obtain rfl : l = 0 := by omega
    exact ⟨base, 0, rfl, Nat.le_refl _, fun m hm => by
      cases cut <;> simp at hm <;> subst hm
      · simpa using CR.lst0 (base := base) ht
      · simpa using CR.lst0 (F := F) (ρ := ρ) (w := w) (base := base) (tl := Tl.clip) nofun⟩
  | @lst B o n' c sz cs e fz ls tl hb hn' hsz hF vs g1 g2 hl hr hc ht =>
    have hcr : CR F ρ w (.slice (some ⟨B, o, none⟩) n' c) (.lst sz ls tl) := .lst hb hn' hsz hF vs g1 g2 hl hr hc ht
    obtain ⟨B', o', c', cs', e', fz', heq, hb', hF', he, _⟩ := CR.lst_parts hb hn' hsz hF vs g1 g2 hl hr hc ht
    cases heq
    rw [hb] at hb'
    cases hb'
    cases hn
    simp only [cutA, R.ok.injEq] at hy
    subst hy
    simp [szA] at hs
    subst hs
    refine ⟨_, _, rfl, hl, fun m hm => ?_⟩
    have hlen : ((ls.drop l).take (h - l)).length = h - l := by simp; omega
    have hmc : m ≤ c ∧ h ≤ m := by cases cut <;> simp at hm <;> omega
    by_cases hml : m = l
    · rw [if_pos hml]
      rw [show h - l = 0 by omega, show m - l = 0 by omega, List.take_zero]
      refine .lst (n := 0) (c := 0) hb rfl (fun x hx => by simp at hx) (fun j hj => by simp at hj) vs (fun i x j y hx => by simp at hx) (fun i x j y hx => by simp at hx) (by simp) (by simp; omega) (fun _ => rfl) (fun t _ hlt => by simp at hlt)
    · rw [if_neg hml]
      simp only [Option.map_some, add0]
      suffices key : CR F ρ w (.slice (some ⟨B, o + l * sz, none⟩) ((ls.drop l).take (h - l)).length (m - l)) (.lst sz ((ls.drop l).take (h - l)) (if cut = true then Tl.clip else if h = ls.length then tl else Tl.open_)) by
        rw [hlen] at key; exact key
      refine .lst_of (c := m - l) hb (fun j hj => ?_) (he.cut l (h - l)) (by omega) ?_ (fun hq => ?_) (fun t hq hlt => ?_)
      · rw [hlen] at hj
        have : l * sz + j < ls.length * sz := by
          have h3 : (h - l) * sz = h * sz - l * sz := Nat.sub_mul ..
          have h4 := Nat.mul_le_mul_right sz h2
          have h5 := Nat.mul_le_mul_right sz h1
          omega
        have := hF (l * sz + j) this
        rwa [← Nat.add_assoc] at this
      · have h3 : (m - l) * sz = m * sz - l * sz := Nat.sub_mul ..
        have h4 := Nat.mul_le_mul_right sz hmc.1
        have h5 := Nat.mul_le_mul_right sz (show l ≤ m by omega)
        omega
      · rw [hlen]
        cases cut
        · simp only [Bool.false_eq_true, if_false] at hq hm
          split at hq
          · have := hc hq; omega
          · cases hq
        · simp at hm; omega
      · cases cut
        · simp only [Bool.false_eq_true, if_false] at hq hm
          split at hq
          · rename_i hhn
            rw [hlen] at hlt
            have := ht t hq (by omega)
            rw [this, hlen]
            have h3 : (h - l) * sz = h * sz - l * sz := Nat.sub_mul ..
            have h5 := Nat.mul_le_mul_right sz h1
            subst hhn
            congr 2; omega
          · cases hq
        · cases hq
  | @sl b B o off len sz c clip cs e fz hb0 hb hr hl hc ho =>
    cases hn; cases hy
    simp [szA] at hs
    subst hs
    refine ⟨_, _, rfl, hl, fun m hm => ?_⟩
    have hmc : m ≤ c ∧ h ≤ m := by cases cut <;> simp at hm <;> omega
    have hroom : (off + l + (m - l)) * sz ≤ cs.size := Nat.le_trans (Nat.mul_le_mul_right _ (by omega)) hr
    have hclip : (cut || (clip && h == n)) = true → m - l = h - l := by
      intro hq
      cases cut
      · simp at hq hm; have := hc hq.1; omega
      · simp at hm; omega
    by_cases hml : m = l
    · rw [if_pos hml]
      exact .sl hb0 hb hroom (by omega) hclip (.inl (by omega))
    · rw [if_neg hml]
      simp only [Option.map_some, add0]
      refine .sl hb0 hb hroom (by omega) hclip (.inr ?_)
      rcases ho with h' | h'
      · omega
      · rw [h', Nat.add_mul]
  | @vsl b B o off len c clip hb0 hl hc ho =>
    cases hn; cases hy
    simp [szA] at hs
    subst hs
    refine ⟨_, _, rfl, hl, fun m hm => ?_⟩
    have hmc : m ≤ c ∧ h ≤ m := by cases cut <;> simp at hm <;> omega
    have hclip : (cut || (clip && h == n)) = true → m - l = h - l := by
      intro hq
      cases cut
      · simp at hq hm; have := hc hq.1; omega
      · simp at hm; omega
    by_cases hml : m = l
    · rw [if_pos hml]
      exact .vsl hb0 (by omega) hclip (.inl (by omega))
    · rw [if_neg hml]
      simp only [Option.map_some, add0]
      refine .vsl hb0 (by omega) hclip (.inr ?_)
      rcases ho with h' | h' <;> omega
  | _ => cases hn

theorem sliceA_run {P : Program} {t : TypeId} {x y : AV} {lo hi mx : Option AV} (h : sliceA P t x lo hi mx = .ok y) {v : Value} {vlo vhi vmx : Option Value} (hx : CR F ρ w v x) (hlo : CRo F ρ w vlo lo) (hhi : CRo F ρ w vhi hi) (hmx : CRo F ρ w vmx mx) :
    ∃ r, (Instr.sliceAt t v vlo vhi vmx).run P w = .ok r w ∧ CR F ρ w r y := by
  obtain ⟨d, hd, h⟩ := R.bind_ok h
  have hu := run_under hd w
  cases d with
  | string =>
    simp only at h
    cases x with
    | str s =>
      simp only at h
      obtain ⟨l, hl, h⟩ := R.bind_ok h
      obtain ⟨hh, hhh, h⟩ := R.bind_ok h
      by_cases hc : l ≤ hh ∧ hh ≤ s.size ∧ mx.isNone = true
      case neg => rw [if_neg hc] at h; cases h
      rw [if_pos hc] at h
      cases h
      obtain rfl : v = _ := toV_eq (by rfl) hx
      have hnone : vmx = none := by have := hmx.some_of; cases vmx <;> cases mx <;> simp_all
      subst hnone
      have hb := run_bounds (P := P) (isS := false) (len := s.size) (cap := s.size) (m := s.size) (mx := none) (amx := none) hlo hhi trivial hl hhh rfl hc.1 hc.2.1 (Nat.le_refl _) (.inl rfl) w
      refine ⟨.string (s.extract l hh), ?_, .str _⟩
      simp [Instr.sliceAt, Instr.slice, hu, hb]
    | _ => cases h
  | slice e =>
    simp only at h
    obtain ⟨sz, hsz, h⟩ := R.bind_ok h
    obtain ⟨n, hn, h⟩ := R.bind_ok h
    obtain ⟨l, hl, h⟩ := R.bind_ok h
    obtain ⟨hh, hhh, h⟩ := R.bind_ok h
    obtain ⟨m, hm, h⟩ := R.bind_ok h
    split at h
    · rename_i hc
      obtain ⟨b, c, rfl, hnc, hcr⟩ := cutA_cr hx hn hc.2.2.2.1 h hc.1 hc.2.1
      have hm' : boundA mx c = .ok (if mx.isSome then hh else c) := by
        cases mx with
        | none => rfl
        | some u => rw [← hc.2.2.1]; exact hm
      have hb := run_bounds (P := P) (isS := true) (len := n) (cap := c) hlo hhi hmx hl hhh hm' hc.1 (by split <;> omega) (by split <;> omega) hc.2.2.2.2 w
      refine ⟨_, ?_, hcr _ rfl⟩
      simp [Instr.sliceAt, Instr.slice, hu, hb, run_size hsz]
    · cases h
  | array n e =>
    simp only at h
    obtain ⟨sz, hsz, h⟩ := R.bind_ok h
    obtain ⟨l, hl, h⟩ := R.bind_ok h
    obtain ⟨hh, hhh, h⟩ := R.bind_ok h
    split at h
    · rename_i hc
      cases x with
      | ptr b off =>
        cases h
        have hnone : vmx = none := by have := hmx.some_of; cases vmx <;> cases mx <;> simp_all
        subst hnone
        have hb := run_bounds (P := P) (isS := false) (len := n) (cap := n) (m := n) (mx := none) (amx := none) hlo hhi trivial hl hhh rfl hc.1 hc.2.1 (Nat.le_refl _) (.inl rfl) w
        cases hx with
        | @ptr _ B _ hb0 =>
          refine ⟨_, by simp [Instr.sliceAt, Instr.sureAddr, hu, hb, run_size hsz]; rfl, ?_⟩
          by_cases hml : n = l
          · rw [if_pos hml]; exact .vsl hb0 (by omega) (by simp) (.inl (by omega))
          · rw [if_neg hml, hc.2.2.2, add0]; exact .vsl hb0 (by omega) (by simp) (.inr (by omega))
      | _ => cases h
    · cases h
  | _ => cases h
end
end Go.Proofs.YthfkkflogbibfaaGreatDoor.AM
