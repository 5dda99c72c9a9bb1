/- Calls as contracts in whatever memory; frames by the slots that are known. -/
import Derived.Test.YthfkkflogbibfaaGreatDoorS7
namespace Go.Proofs.YthfkkflogbibfaaGreatDoor.AM
set_option linter.unusedVariables false
set_option linter.unusedSimpArgs false
set_option linter.unusedSectionVars false

/-- a value by its new names. -/
theorem CR.up {F : Area} {ρ ρ' : Rho} {w : World} {κ : Nat → Nat} (hρ : ∀ b p, ρ b = some p → ρ' (κ b) = some p) {v : Value} {y : AV} (h : CR F ρ w v y) : CR F ρ' w v (ren κ y) := by
  induction h with
  | bool b => exact .bool b
  | int k n => exact .int k n
  | str s => exact .str s
  | nilp => exact .nilp
  | ptr h => exact .ptr (hρ _ _ h)
  | eptr h ho => exact .eptr (hρ _ _ h) ho
  | fp hb hF vs h1 h2 ho ih =>
    simp only [ren]
    exact .fp hb (by rw [rens_length]; exact hF) vs (fun j y hy => by obtain ⟨z, hz, rfl⟩ := rens_get_inv hy; exact h1 j z hz) (fun j y hy => by obtain ⟨z, hz, rfl⟩ := rens_get_inv hy; exact ih j z hz) ho
  | nils => exact .nils
  | @lst0 base sz tl ht => simp only [ren, rens]; exact .lst0 (fun t => by cases tl with
      | own t => exact absurd rfl (ht t)
      | clip => nofun
      | open_ => nofun)
  | sl h hb hr hl hc ho => exact .sl (hρ _ _ h) hb hr hl hc ho
  | vsl h hl hc ho => exact .vsl (hρ _ _ h) hl hc ho
  | @lst B o n c sz cs e fz l tl hb hn hsz hF vs h1 h2 hl hr hc ht ih =>
    simp only [ren]
    refine .lst hb (by rw [rens_length]; exact hn) (fun x hx => ?_) (by rw [rens_length]; exact hF) vs (fun i x j y hx hy => ?_) (fun i x j y hx hy => ?_) (by rw [rens_length]; exact hl) hr (fun hcl => ?_) (fun t ht' hlt => ?_)
    · rw [rens_map] at hx
      obtain ⟨z, hz, rfl⟩ := List.mem_map.1 hx
      rw [ren_cells, rens_length]; exact hsz z hz
    · obtain ⟨z, hz, rfl⟩ := rens_get_inv hx
      rw [ren_cells] at hy
      obtain ⟨u, hu, rfl⟩ := rens_get_inv hy
      exact h1 i z j u hz hu
    · obtain ⟨z, hz, rfl⟩ := rens_get_inv hx
      rw [ren_cells] at hy
      obtain ⟨u, hu, rfl⟩ := rens_get_inv hy
      exact ih i z j u hz hu
    · rw [rens_length]
      cases tl with
      | clip => exact hc rfl
      | open_ => cases hcl
      | own t => cases hcl
    · rw [rens_length] at hlt ⊢
      cases tl with
      | clip => cases ht'
      | open_ => cases ht'
      | own t' => cases ht'; exact hρ _ _ (ht t' rfl hlt)
  | nilm => exact .nilm
  | map h => exact .map (hρ _ _ h)
  | nilf => exact .nilf
  | clo hf hc vs us h1 h2 h3 h4 ih1 ih2 =>
    simp only [ren]
    refine .clo (by rw [rens_length]; exact hf) (by rw [rens_length]; exact hc) vs us (fun j y hy => ?_) (fun j y hy => ?_) (fun j y hy => ?_) (fun j y hy => ?_)
    · obtain ⟨z, hz, rfl⟩ := rens_get_inv hy; exact h1 j z hz
    · obtain ⟨z, hz, rfl⟩ := rens_get_inv hy; exact ih1 j z hz
    · obtain ⟨z, hz, rfl⟩ := rens_get_inv hy; exact h3 j z hz
    · obtain ⟨z, hz, rfl⟩ := rens_get_inv hy; exact ih2 j z hz
  | nili => exact .nili
  | agg hn vs h1 h2 ih =>
    simp only [ren]
    exact .agg (by rw [rens_length]; exact hn) vs (fun j y hy => by obtain ⟨z, hz, rfl⟩ := rens_get_inv hy; exact h1 j z hz) (fun j y hy => by obtain ⟨z, hz, rfl⟩ := rens_get_inv hy; exact ih j z hz)
  | tup hn vs h1 h2 ih =>
    simp only [ren]
    exact .tup (by rw [rens_length]; exact hn) vs (fun j y hy => by obtain ⟨z, hz, rfl⟩ := rens_get_inv hy; exact h1 j z hz) (fun j y hy => by obtain ⟨z, hz, rfl⟩ := rens_get_inv hy; exact ih j z hz)
theorem BR.up {F : Area} {ρ ρ' : Rho} {w : World} {κ : Nat → Nat} (hρ : ∀ b p, ρ b = some p → ρ' (κ b) = some p) {B k : Nat} {x : Blk} (h : BR F ρ w B k x) : BR F ρ' w B k (renB κ x) := by
  have rows : ∀ {vs : List Value} {l : List AV}, CRs F ρ w vs l → CRs F ρ' w vs (rens κ l) := fun {vs l} hr => ⟨by rw [hr.1, rens_length], fun j v y hv hy => by obtain ⟨z, hz, rfl⟩ := rens_get_inv hy; exact (hr.2 j v _ hv hz).up hρ⟩
  cases x with
  | var l => obtain ⟨h0, cs, e, fz, h1, h2, h3⟩ := h; exact ⟨h0, cs, e, fz, h1, h2, rows h3⟩
  | arr sz l =>
    obtain ⟨h0, cs, e, fz, h1, h2, h3, h4, h5⟩ := h
    have hfl : flat (rens κ l) = rens κ (flat l) := by
      clear h3 h4 h5
      induction l with
      | nil => rfl
      | cons x l ih => simp only [flat, rens, List.flatMap_cons] at ih ⊢; rw [ren_cells, ih, rens_map, rens_map, rens_map, List.map_append]
    refine ⟨h0, cs, e, fz, h1, h2, by rw [rens_length]; exact h3, fun x hx => ?_, ?_⟩
    · rw [rens_map] at hx
      obtain ⟨z, hz, rfl⟩ := List.mem_map.1 hx
      rw [ren_cells, rens_length]; exact h4 z hz
    · rw [rens_length, hfl]; exact rows h5
  | map es =>
    obtain ⟨h0, ents, clock, h1, h2, h3⟩ := h
    refine ⟨h0, ents, clock, h1, by simpa using h2, fun i e x he hx => ?_⟩
    rw [List.getElem?_map] at hx
    cases hz : es[i]? with
    | none => rw [hz] at hx; cases hx
    | some z =>
      rw [hz] at hx; cases hx
      have := h3 i e z he hz
      exact ⟨this.1.up hρ, this.2.up hρ⟩
  | tail => exact h
  | dead => trivial
  | hole => trivial

/-- a call from no memory of the machine's own, in whatever memory. -/
theorem Con.lift {E : Env} (hG : ∀ i cs, E.G i = some cs → noRefs cs = true) {f : FuncId} {args : List AV} {r : AV} {h' : H} (hc : Con E f args [] r h') (hn : noRefs args = true) (hh : ∀ x, x ∈ h' → x ≠ .hole) (H0 : H) :
    Con E f args H0 (ren (· + H0.length) r) (H0 ++ h'.map (renB (· + H0.length))) := by
  intro A ρ w vs hr hargs
  have hown : ∀ (ρ1 : Rho) B off, ¬ Own ρ1 (view []) B off := fun ρ1 B off ⟨b, k, y, _, hy, _⟩ => by simp [view] at hy
  have hF : Forb (Forb A ρ (view H0)) rho0 (view []) = Forb A ρ (view H0) := funext fun B => funext fun off => propext ⟨fun hh => hh.resolve_left (hown _ B off), .inr⟩
  have hr' : HR E.G (Forb A ρ (view H0)) rho0 w (view []) := by
    refine ⟨fun b _ => rfl, fun b x hb _ => (by simp [view] at hb), fun b hb => (by simp [view] at hb), fun b b' B k k' x x' h => (by cases h), fun B off ha => ⟨?_, hown _ B off⟩, fun i cs hi => ?_⟩
    · rcases ha with ⟨b, k, y, h1, _⟩ | ha
      · exact hr.lt h1
      · exact (hr.avo B off ha).1
    · rw [hF]; exact (hr.glob i cs hi).free rho0 (by simp only [noRef]; exact hG i cs hi)
  obtain ⟨h1, h2⟩ := hc (Forb A ρ (view H0)) rho0 w vs hr' (by rw [hF]; exact hargs.free rho0 hn)
  refine ⟨h1, h2.mono ?_⟩
  rintro e w' ⟨v, ρs, rfl, hx, hs, hcr⟩
  obtain ⟨n, hn0⟩ : ∃ n, n = H0.length := ⟨_, rfl⟩
  rw [← hn0]
  have hge : ∀ b, n ≤ b → ρ b = none := fun b hb => hr.dom b (by simp [view]; omega)
  obtain ⟨ρ', hρ'⟩ : ∃ ρ' : Rho, ρ' = fun b => if b < n then ρ b else ρs (b - n) := ⟨_, rfl⟩
  have hold : ∀ b, b < n → ρ' b = ρ b := fun b hb => by rw [hρ']; simp [hb]
  have hnew : ∀ b, ρ' (b + n) = ρs b := fun b => by rw [hρ']; simp only; rw [if_neg (by omega), Nat.add_sub_cancel]
  have hsub : ∀ b p, ρ b = some p → ρ' b = some p := fun b p hb => by
    rcases Nat.lt_or_ge b n with h | h
    · rw [hold b h]; exact hb
    · rw [hge b h] at hb; cases hb
  obtain ⟨g', hg'⟩ : ∃ g' : View, g' = view (H0 ++ h'.map (renB (· + n))) := ⟨_, rfl⟩
  have gold : ∀ b, b < n → g' b = view H0 b := fun b hb => by rw [hg']; exact List.getElem?_append_left (by omega)
  have gnew : ∀ b, g' (b + n) = (h'[b]?).map (renB (· + n)) := fun b => by
    rw [hg']
    simp only [view]
    rw [List.getElem?_append_right (by omega), List.getElem?_map]
    congr 2; omega
  have split : ∀ b, b < n ∨ ∃ c, b = c + n := fun b => by
    rcases Nat.lt_or_ge b n with h | h
    · exact .inl h
    · exact .inr ⟨b - n, by omega⟩
  have hO : ∀ B off, Own ρ' g' B off ↔ (Own ρ (view H0) B off ∨ Own ρs (view h') B off) := by
    intro B off
    constructor
    · rintro ⟨b, k, x, k1, k2, k3, k4⟩
      rcases split b with hb | ⟨c, rfl⟩
      · rw [hold b hb] at k1; rw [gold b hb] at k2; exact .inl ⟨b, k, x, k1, k2, k3, k4⟩
      · rw [hnew] at k1; rw [gnew] at k2
        cases hz : h'[c]? with
        | none => rw [hz] at k2; cases k2
        | some z =>
          rw [hz] at k2; cases k2
          exact .inr ⟨c, k, z, k1, hz, by rw [← renB_alive]; exact k3, k4⟩
    · rintro (⟨b, k, x, k1, k2, k3, k4⟩ | ⟨b, k, x, k1, k2, k3, k4⟩)
      · have hb : b < n := by
          rcases Nat.lt_or_ge b n with h | h
          · exact h
          · rw [hge b h] at k1; cases k1
        exact ⟨b, k, x, by rw [hold b hb]; exact k1, by rw [gold b hb]; exact k2, k3, k4⟩
      · refine ⟨b + n, k, renB (· + n) x, by rw [hnew]; exact k1, ?_, by rw [renB_alive]; exact k3, k4⟩
        rw [gnew, show h'[b]? = some x from k2]; rfl
  have hFe : Forb (Forb A ρ (view H0)) ρs (view h') = Forb A ρ' g' := by
    funext B off
    apply propext
    unfold Forb
    rw [hO]
    constructor
    · rintro (h | h | h)
      · exact .inl (.inr h)
      · exact .inl (.inl h)
      · exact .inr h
    · rintro ((h | h) | h)
      · exact .inr (.inl h)
      · exact .inl h
      · exact .inr (.inr h)
  have hext : Ext (Own ρ (view H0)) ρ w (Own ρ' g') ρ' w' := by
    refine ⟨hsub, fun B off ho => ?_, fun b B k hb => ?_, hx.st, hx.size, fun B cs e fz hb => ?_, fun B hB _ => hx.keepo B hB (fun off => hown _ B off)⟩
    · rcases (hO B off).1 ho with h | h
      · exact .inl h
      · rcases hx.new B off h with h | h
        · exact absurd h (hown _ B off)
        · exact .inr h
    · rcases split b with h | ⟨c, rfl⟩
      · rw [hold b h] at hb; exact .inl hb
      · rw [hnew] at hb
        rcases hx.newρ c B k hb with h | h | h
        · cases h
        · exact absurd h (hown _ B k)
        · exact .inr (.inr h)
    · obtain ⟨cs', k1, k2, k3⟩ := hx.keep B cs e fz hb
      exact ⟨cs', k1, k2, fun off ho _ => k3 off ho (hown _ B off)⟩
  have hup : ∀ b p, ρs b = some p → ρ' (b + n) = some p := fun b p h => by rw [hnew]; exact h
  rw [hFe] at hcr
  refine ⟨v, ρ', rfl, ?_, ?_, ?_⟩
  · rw [← hg']; exact hext
  · rw [← hg']
    refine ⟨fun b hb => ?_, fun b x hb hne => ?_, fun b hb B k hk => ?_, fun b b' B k k' x x' k1 k2 k3 k4 k5 k6 => ?_, fun B off ha => ⟨Nat.lt_of_lt_of_le (hr.avo B off ha).1 hx.size, fun ho => ?_⟩, fun i cs hi => (hr.glob i cs hi).ext hext⟩
    · rcases split b with h | ⟨c, rfl⟩
      · rw [hold b h]; rw [gold b h] at hb; exact hr.dom b hb
      · rw [hnew]; rw [gnew] at hb
        exact hs.dom c (by simpa [view] using hb)
    · rcases split b with h | ⟨c, rfl⟩
      · rw [gold b h] at hb
        obtain ⟨B, k, k1, k2, k3⟩ := hr.blk b x hb hne
        exact ⟨B, k, by rw [hold b h]; exact k1, Nat.lt_of_lt_of_le k2 hx.size, k3.mono hsub hext.keeps (hx.keepo B k2 (fun off => hown _ B off))⟩
      · rw [gnew] at hb
        cases hz : h'[c]? with
        | none => rw [hz] at hb; cases hb
        | some z =>
          rw [hz] at hb; cases hb
          obtain ⟨B, k, k1, k2, k3⟩ := hs.blk c z hz (hh z (List.mem_of_getElem? hz))
          rw [hFe] at k3
          exact ⟨B, k, by rw [hnew]; exact k1, k2, k3.up hup⟩
    · rcases split b with h | ⟨c, rfl⟩
      · rw [gold b h] at hb; rw [hold b h] at hk; exact hr.hole b hb B k hk
      · rw [gnew] at hb
        cases hz : h'[c]? with
        | none => rw [hz] at hb; cases hb
        | some z =>
          rw [hz] at hb
          have : renB (· + n) z = .hole := by simpa using hb
          exact absurd (by cases z <;> simp [renB] at this ⊢) (hh z (List.mem_of_getElem? hz))
    · have cross : ∀ {b c : Nat} {x z : Blk} {k k' : Nat}, b < n → ρ b = some (B, k) → view H0 b = some x → x.alive = true → ρs c = some (B, k') → h'[c]? = some z → z.alive = true → False := by
        intro b c x z k k' hb q1 q2 q3 q4 q5 q6
        exact (hs.avo B (max k k') (.inl ⟨b, k, x, q1, q2, q3, Nat.le_max_left ..⟩)).2 ⟨c, k', z, q4, q5, q6, Nat.le_max_right ..⟩
      rcases split b with h | ⟨c, rfl⟩
      · rw [hold b h] at k1; rw [gold b h] at k3
        rcases split b' with h' | ⟨c', rfl⟩
        · rw [hold b' h'] at k2; rw [gold b' h'] at k4; exact hr.sep b b' B k k' x x' k1 k2 k3 k4 k5 k6
        · rw [hnew] at k2; rw [gnew] at k4
          cases hz : h'[c']? with
          | none => rw [hz] at k4; cases k4
          | some z => rw [hz] at k4; cases k4; exact (cross h k1 k3 k5 k2 hz (by rw [← renB_alive]; exact k6)).elim
      · rw [hnew] at k1; rw [gnew] at k3
        cases hz : h'[c]? with
        | none => rw [hz] at k3; cases k3
        | some z =>
          rw [hz] at k3; cases k3
          rcases split b' with h' | ⟨c', rfl⟩
          · rw [hold b' h'] at k2; rw [gold b' h'] at k4
            exact (cross h' k2 k4 k6 k1 hz (by rw [← renB_alive]; exact k5)).elim
          · rw [hnew] at k2; rw [gnew] at k4
            cases hz' : h'[c']? with
            | none => rw [hz'] at k4; cases k4
            | some z' =>
              rw [hz'] at k4; cases k4
              rw [hs.sep c c' B k k' z z' k1 k2 hz hz' (by rw [← renB_alive]; exact k5) (by rw [← renB_alive]; exact k6)]
    · rcases (hO B off).1 ho with h | h
      · exact (hr.avo B off ha).2 h
      · exact (hs.avo B off (.inr ha)).2 h
  · rw [← hg']; exact hcr.up hup

/-! ## frames by the slots that are known -/
def look : List (Nat × AV) → Nat → AV
  | [], _ => top
  | (j, v) :: l, i => match Nat.beq i j with
    | true => v
    | false => look l i
abbrev frm (l : List (Nat × AV)) : Fr := look l
theorem look_zip (τ : Fr) : ∀ (L : List Nat) (i : Nat), look (L.zip (L.map τ)) i = τ i ∨ look (L.zip (L.map τ)) i = top
  | [], i => .inr rfl
  | j :: L, i => by
    simp only [List.map_cons, List.zip_cons_cons, look]
    split
    · rename_i h; rw [Nat.eq_of_beq_eq_true h]; exact .inl rfl
    · exact look_zip τ L i
theorem Wk.frm {E : Env} {N : Nat} {h0 : H} {τ τ' : Fr} {h : H} (hf : ∀ i, τ' i = τ i ∨ τ' i = top) : Wk E N h0 τ h τ' h := by
  rintro A s0 ρ0 w0 w a hn ⟨ρ, hx, hs⟩
  refine ⟨ρ, hx, hs.hr, fun i => ?_, hs.sz, hs.de⟩
  rcases hf i with h1 | h1
  · rw [h1]; exact hs.fr i
  · rw [h1]; exact .inl ⟨0, [], rfl⟩

/-- what is seen of a state: some slots, and the memory. -/
def obsK (X : SX) (K : Known) (N : Nat) (c : Code) (p : List Nat) (τ : Fr) (h : H) (L : List Nat) : T (AM.X × List AV × H) := (execK X K N c p τ h).bind fun r => .leaf (r.1, L.map r.2.1, r.2.2)
theorem Tri.of_obs {X : SX} (g : Ground X.E) (hcall : CallOK X.E X.calls) {K : Known} {N : Nat} {h0 : H} {body : Code} (hK : KOK X.E N h0 body K) {c : Code} {p : List Nat} (hp : sub body p = c) {τ : Fr} {h : H} {L : List Nat} {x : AM.X} {vs : List AV} {h' : H}
    (hr : (obsK X K N c p τ h L).run = .ok (x, vs, h')) : Tri X.E N h0 c τ h x (frm (L.zip vs)) h' := by
  obtain ⟨⟨x1, τ1, h1⟩, h2, hr⟩ := T.bind_ok hr
  cases hr
  exact .wk .refl (execK_ok g hcall hK hp h2) (.frm (look_zip τ1 L))

/-- a function's results as one value. -/
def one : List AV → AV
  | [v] => v
  | vs => .tup vs
theorem Con.of_tri {E : Env} {f : FuncId} {fn : Func} (hfn : E.P.funcs[f]? = some fn) {c : Code} (hb : fn.body = some c) (hname : (fn.name == "runtime.NumGoroutine") = false) {args : List AV} {h : H} {x : X} {τ : Fr} {h' : H} {N : Nat} (hN : N = max fn.ntmps args.length)
    (hc : Tri E N h c (initFr args) h x τ h') (hx : ∀ i, x ≠ .exit i) {rs : List AV} (hres : resA E τ h' fn.results.toList = .ok rs) : Con E f args h (one rs) h' := by
  subst hN
  intro A ρ w vs hr hargs
  refine ⟨fun W => ?_, ?_⟩
  · unfold callFunc
    simp only [Sem.run_bind, run_program, Result.andThen_ok, hfn]
    rw [if_neg (by simp [hname])]
    simp [hb]
  · have hl : vs.size = args.length := by simpa using hargs.1
    have hst : St E A ρ w { tmps := vs ++ Array.replicate (fn.ntmps - vs.size) Go.undef, defers := [] } (initFr args) (view h) (max fn.ntmps args.length) w.heap.size :=
      ⟨hr, init_frame hargs fn.ntmps, by simp; omega, DeOK.nil (Nat.le_refl _)⟩
    have hw := hc A w.heap.size 0 none ρ w w _ (.inl rfl) (fun b hb => hr.dom b (by simpa [view] using hb)) ⟨ρ, Ext.refl _ _ _, hst⟩
    refine callsIn_wide.1 (callsIn_of_wp_marks (F := Fence.wide) (n := 0) hfn hb trivial (wpIn_mono hw ?_) rfl)
    rintro e a' w2 ⟨rfl, ρ', hx2, hst2⟩
    have fin : ∀ (w' : World), HR E.G A ρ' w' (view h') → FRel (Forb A ρ' (view h')) ρ' w' a'.tmps τ → Ext (Own ρ (view h)) ρ w (Own ρ' (view h')) ρ' w' →
        ∃ v, (results fn a'.tmps).run E.P w' = .ok v w' ∧ ∃ v1 ρ', Ending.returned v = .returned v1 ∧ Ext (Own ρ (view h)) ρ w (Own ρ' (view h')) ρ' w' ∧ HR E.G A ρ' w' (view h') ∧ CR (Forb A ρ' (view h')) ρ' w' v1 (one rs) := by
      intro w' hr' hf' hx'
      obtain ⟨us, h2, h3⟩ := resA_run hr' hf' hres
      refine ⟨if h : us.length = 1 then us[0] else .tuple us.toArray, ?_, _, ρ', rfl, hx', hr', ?_⟩
      · rw [results_eq, Sem.run_bind, Array.mapM_eq_mapM_toList, Sem.run_map, h2]
        simp only [Result.andThen_ok, Sem.run_pure]
        congr 1
      · cases rs with
        | nil =>
          obtain rfl := List.eq_nil_of_length_eq_zero h3.1
          exact .tup_of .nil
        | cons y ys =>
          cases us with
          | nil => have := h3.1; simp at this
          | cons u us =>
            cases ys with
            | nil =>
              obtain rfl : us = [] := by have := h3.1; simpa using this
              simpa [one] using h3.head
            | cons y2 ys =>
              have hlen : ¬ (u :: us).length = 1 := by have := h3.1; simp at this ⊢; intro e; simp [e] at this
              rw [dif_neg hlen]
              exact .tup_of (by simpa using h3)
    cases x with
    | normal => exact leaves_ok fin a'.defers w2 hst2.de hst2.hr hst2.fr hx2
    | ret => exact leaves_ok fin a'.defers w2 hst2.de hst2.hr hst2.fr hx2
    | exit i => exact absurd rfl (hx i)
/-- a weaker result. -/
theorem Con.le {E : Env} {f : FuncId} {args : List AV} {h h' : H} {r r' : AV} (hc : Con E f args h r h') (hl : Le r r') : Con E f args h r' h' := fun A ρ w vs hr hargs =>
  let ⟨h1, h2⟩ := hc A ρ w vs hr hargs
  ⟨h1, h2.mono fun e w' ⟨v, ρ', k1, k2, k3, k4⟩ => ⟨v, ρ', k1, k2, k3, hl _ _ _ _ k4⟩⟩
/-- weaker arguments. -/
theorem Con.args {E : Env} {f : FuncId} {args args' : List AV} {h h' : H} {r : AV} (hc : Con E f args h r h') (hl : Les args' args) : Con E f args' h r h' := fun A ρ w vs hr hargs => hc A ρ w vs hr (hl.crs hargs)
end Go.Proofs.YthfkkflogbibfaaGreatDoor.AM
