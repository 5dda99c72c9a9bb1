/- Code as a relation behind a function's beginning: names of new memory may be changed, slots forgotten; loops and calls by what is known of them. -/
import Derived.Test.YthfkkflogbibfaaGreatDoorS5
namespace Go.Proofs.YthfkkflogbibfaaGreatDoor.AM
set_option linter.unusedVariables false
set_option linter.unusedSimpArgs false
set_option linter.unusedSectionVars false

/-- a state, behind what stood at a function's beginning. -/
def Reach (E : Env) (A : Area) (N s0 : Nat) (ρ0 : Rho) (w0 : World) (h0 : H) (τ : Fr) (h : H) (a : Act) (w : World) : Prop :=
  ∃ ρ, Ext (Own ρ0 (view h0)) ρ0 w0 (Own ρ (view h)) ρ w ∧ St E A ρ w a τ (view h) N s0
def Tri (E : Env) (N : Nat) (h0 : H) (c : Code) (τ : Fr) (h : H) (x : X) (τ' : Fr) (h' : H) : Prop :=
  ∀ (A : Area) (s0 nn : Nat) (rd : Option Nat) (ρ0 : Rho) (w0 w : World) (a : Act), (rd = none ∨ noRF c = true) → (∀ b, h0.length ≤ b → ρ0 b = none) → Reach E A N s0 ρ0 w0 h0 τ h a w →
    c.wpIn (fw rd) nn E.P (fun e a' w' => e = x.exit' ∧ Reach E A N s0 ρ0 w0 h0 τ' h' a' w') a w
/-- one state says no more than another one. -/
def Wk (E : Env) (N : Nat) (h0 : H) (τ : Fr) (h : H) (τ' : Fr) (h' : H) : Prop :=
  ∀ (A : Area) (s0 : Nat) (ρ0 : Rho) (w0 w : World) (a : Act), (∀ b, h0.length ≤ b → ρ0 b = none) → Reach E A N s0 ρ0 w0 h0 τ h a w → Reach E A N s0 ρ0 w0 h0 τ' h' a w
theorem Wk.refl {E : Env} {N : Nat} {h0 : H} {τ : Fr} {h : H} : Wk E N h0 τ h τ h := fun _ _ _ _ _ _ _ h => h
theorem Wk.trans {E : Env} {N : Nat} {h0 : H} {τ τ1 τ2 : Fr} {h h1 h2 : H} (a : Wk E N h0 τ h τ1 h1) (b : Wk E N h0 τ1 h1 τ2 h2) : Wk E N h0 τ h τ2 h2 := fun A s0 ρ0 w0 w ac hn hr => b A s0 ρ0 w0 w ac hn (a A s0 ρ0 w0 w ac hn hr)

section
variable {E : Env} {N : Nat} {h0 : H}
theorem Tri.of_code {c : Code} {τ τ' : Fr} {h h' : H} {x : X} (hc : CodeOK E N c τ h x τ' h') : Tri E N h0 c τ h x τ' h' := by
  intro A s0 nn rd ρ0 w0 w a hrd hn ⟨ρ, hx, hs⟩
  refine wpIn_mono (hc A s0 nn rd ρ w a hrd hs) ?_
  rintro e a' w' ⟨rfl, ρ', hx', hs'⟩
  exact ⟨rfl, ρ', hx.trans hx', hs'⟩
theorem Tri.wk {c : Code} {τ τ1 τ2 τ3 : Fr} {h h1 h2 h3 : H} {x : X} (a : Wk E N h0 τ h τ1 h1) (hc : Tri E N h0 c τ1 h1 x τ2 h2) (b : Wk E N h0 τ2 h2 τ3 h3) : Tri E N h0 c τ h x τ3 h3 := by
  intro A s0 nn rd ρ0 w0 w ac hrd hn hr
  refine wpIn_mono (hc A s0 nn rd ρ0 w0 w ac hrd hn (a A s0 ρ0 w0 w ac hn hr)) ?_
  rintro e a' w' ⟨rfl, hr'⟩
  exact ⟨rfl, b A s0 ρ0 w0 w' a' hn hr'⟩
theorem Tri.seq {c d : Code} {τ τ1 τ' : Fr} {h h1 h' : H} {x : X} (hc : Tri E N h0 c τ h .normal τ1 h1) (hd : Tri E N h0 d τ1 h1 x τ' h') : Tri E N h0 (.seq c d) τ h x τ' h' := by
  intro A s0 nn rd ρ0 w0 w a hrd hn hr
  refine wpIn_seq (wpIn_mono (hc A s0 nn rd ρ0 w0 w a (hrd.imp (fun y => y) fun h => by simp only [noRF, Bool.and_eq_true] at h; exact h.1) hn hr) ?_)
  rintro e a1 w1 ⟨rfl, hr1⟩
  exact hd A s0 nn rd ρ0 w0 w1 a1 (hrd.imp (fun y => y) fun h => by simp only [noRF, Bool.and_eq_true] at h; exact h.2) hn hr1
theorem Tri.seq_stop {c d : Code} {τ τ' : Fr} {h h' : H} {x : X} (hc : Tri E N h0 c τ h x τ' h') (hx : x ≠ .normal) : Tri E N h0 (.seq c d) τ h x τ' h' := by
  intro A s0 nn rd ρ0 w0 w a hrd hn hr
  refine wpIn_seq (wpIn_mono (hc A s0 nn rd ρ0 w0 w a (hrd.imp (fun y => y) fun h => by simp only [noRF, Bool.and_eq_true] at h; exact h.1) hn hr) ?_)
  rintro e a1 w1 ⟨rfl, hr1⟩
  cases x with
  | normal => exact absurd rfl hx
  | ret => exact ⟨rfl, hr1⟩
  | exit id => exact ⟨rfl, hr1⟩
theorem Tri.block {id : Nat} {c : Code} {τ τ' : Fr} {h h' : H} {x : X} (hc : Tri E N h0 c τ h x τ' h') : Tri E N h0 (.block id c) τ h (x.inBlock id) τ' h' := by
  intro A s0 nn rd ρ0 w0 w a hrd hn hr
  refine wpIn_block (wpIn_mono (hc A s0 nn rd ρ0 w0 w a (hrd.imp (fun y => y) fun h => by simpa only [noRF] using h) hn hr) ?_)
  rintro e a1 w1 ⟨rfl, hr1⟩
  cases x with
  | normal => exact ⟨rfl, hr1⟩
  | ret => exact ⟨rfl, hr1⟩
  | exit i =>
    simp only [X.exit', Exit.inBlock, X.inBlock]
    by_cases hi : i = id
    · rw [if_pos hi]; rw [if_pos hi]; exact ⟨rfl, hr1⟩
    · rw [if_neg hi]; rw [if_neg hi]; exact ⟨rfl, hr1⟩
theorem Tri.cond {c d : Code} {o : Operand} {b : Bool} {τ τ' : Fr} {h h' : H} {x : X} (hb : ev E τ o = .ok (.bool b)) (hc : Tri E N h0 (match b with | true => c | false => d) τ h x τ' h') : Tri E N h0 (.cond o c d) τ h x τ' h' := by
  intro A s0 nn rd ρ0 w0 w a hrd hn hr
  obtain ⟨ρ, hx, hs⟩ := hr
  have hv := toV_eq (x := .bool b) (by rfl) (ev_cr hs.fr hs.hr.glob' hb)
  cases b with
  | true => exact wpIn_cond_true hv (hc A s0 nn rd ρ0 w0 w a (hrd.imp (fun y => y) fun h => by simp only [noRF, Bool.and_eq_true] at h; exact h.1) hn ⟨ρ, hx, hs⟩)
  | false => exact wpIn_cond_false hv (hc A s0 nn rd ρ0 w0 w a (hrd.imp (fun y => y) fun h => by simp only [noRF, Bool.and_eq_true] at h; exact h.2) hn ⟨ρ, hx, hs⟩)

/-- rounds of a loop. -/
inductive TRounds (E : Env) (N : Nat) (h0 : H) (c : Code) : Fr → H → X → Fr → H → Prop
  | done {τ h x τ' h'} (hc : Tri E N h0 c τ h x τ' h') (hx : x ≠ .normal) : TRounds E N h0 c τ h x τ' h'
  | more {τ h τ1 h1 x τ' h'} (hc : Tri E N h0 c τ h .normal τ1 h1) (hr : TRounds E N h0 c τ1 h1 x τ' h') : TRounds E N h0 c τ h x τ' h'
theorem Tri.loop {c : Code} {τ τ' : Fr} {h h' : H} {x : X} (hr : TRounds E N h0 c τ h x τ' h') : Tri E N h0 (.loop c) τ h x τ' h' := by
  intro A s0 nn rd ρ0 w0 w a hrd hn hre
  have hrd' : rd = none ∨ noRF c = true := hrd.imp (fun y => y) fun h => by simpa only [noRF] using h
  have key : ∀ {τ1 : Fr} {h1 : H} {x : X} {τ' : Fr} {h' : H}, TRounds E N h0 c τ1 h1 x τ' h' → ∃ n, ∀ (w1 : World) (a1 : Act), Reach E A N s0 ρ0 w0 h0 τ1 h1 a1 w1 →
      Code.roundsIn (fw rd) nn E.P c (fun e a' w' => e = x.exit' ∧ Reach E A N s0 ρ0 w0 h0 τ' h' a' w') n a1 w1 := by
    clear hr hre
    intro τ1 h1 x τ' h' hr1
    induction hr1 with
    | done hc hx =>
      rename_i τ1 h1 x τ' h'
      refine ⟨1, fun w1 a1 hs1 => ?_⟩
      rw [roundsIn_succ]
      refine wpIn_mono (hc A s0 nn rd ρ0 w0 w1 a1 hrd' hn hs1) ?_
      rintro e a2 w2 ⟨rfl, hr2⟩
      cases x with
      | normal => exact absurd rfl hx
      | ret => exact ⟨rfl, hr2⟩
      | exit id => exact ⟨rfl, hr2⟩
    | more hc hr2 ih =>
      obtain ⟨n, ih⟩ := ih
      refine ⟨n + 1, fun w1 a1 hs1 => ?_⟩
      rw [roundsIn_succ]
      refine wpIn_mono (hc A s0 nn rd ρ0 w0 w1 a1 hrd' hn hs1) ?_
      rintro e a2 w2 ⟨rfl, hr3⟩
      exact ih w2 a2 hr3
  obtain ⟨n, hn'⟩ := key hr
  exact wpIn_loop_rounds n (hn' w a hre)
end

/-! ## code by its place -/
def sub : Code → List Nat → Code
  | c, [] => c
  | .seq a b, i :: p => match i with | 0 => sub a p | _ => sub b p
  | .cond _ a b, i :: p => match i with | 0 => sub a p | _ => sub b p
  | .block _ b, _ :: p => sub b p
  | .loop b, _ :: p => sub b p
  | _, _ :: _ => .skip
theorem sub_nil (c : Code) : sub c [] = c := by cases c <;> rfl
theorem sub_append : ∀ (p q : List Nat) (c : Code), sub c (p ++ q) = sub (sub c p) q
  | [], q, c => by rw [List.nil_append, sub_nil]
  | i :: p, q, c => by
    have hskip : sub .skip q = .skip := by cases q <;> rfl
    cases c with
    | seq a b => simp only [List.cons_append, sub]; cases i <;> exact sub_append p q _
    | cond o a b => simp only [List.cons_append, sub]; cases i <;> exact sub_append p q _
    | block id b => simp only [List.cons_append, sub]; exact sub_append p q _
    | loop b => simp only [List.cons_append, sub]; exact sub_append p q _
    | _ => exact hskip.symm

/-- what is known of pieces of the code, by their places. -/
abbrev Known := List Nat → Option (Fr → H → T (X × Fr × H))
def execK (X : SX) (K : Known) (N : Nat) : Code → List Nat → Fr → H → T (AM.X × Fr × H)
  | .skip, _, τ, h => .leaf (.normal, τ, h)
  | .label _, _, τ, h => .leaf (.normal, τ, h)
  | .region _ ops draw, _, τ, h => (regionT X N ops draw τ h).bind fun (τ, h) => .leaf (.normal, τ, h)
  | .seq a b, p, τ, h => (execK X K N a (p ++ [0]) τ h).bind fun (x, τ, h) => match x with
    | .normal => execK X K N b (p ++ [1]) τ h
    | x => .leaf (x, τ, h)
  | .cond c a b, p, τ, h => (ev X.E τ c).t.bind fun
    | .bool true => execK X K N a (p ++ [0]) τ h
    | .bool false => execK X K N b (p ++ [1]) τ h
    | _ => .fail
  | .block id b, p, τ, h => match K p with
    | some k => k τ h
    | none => (execK X K N b (p ++ [0]) τ h).bind fun (x, τ, h) => .leaf (x.inBlock id, τ, h)
  | .loop b, p, τ, h => match K p with
    | some k => k τ h
    | none => iterT (execK X K N b (p ++ [0])) X.E.M τ h
  | .exit i, _, τ, h => .leaf (.exit i, τ, h)
  | .ret, _, τ, h => .leaf (.ret, τ, h)
  | _, _, _, _ => .fail

/-- what is known holds. -/
def KOK (E : Env) (N : Nat) (h0 : H) (body : Code) (K : Known) : Prop := ∀ p k, K p = some k → ∀ τ h x τ' h', (k τ h).run = .ok (x, τ', h') → Tri E N h0 (sub body p) τ h x τ' h'
theorem KOK.none {E : Env} {N : Nat} {h0 : H} {body : Code} : KOK E N h0 body (fun _ => none) := fun p k h => by cases h

theorem execK_ok {X : SX} (g : Ground X.E) (hcall : CallOK X.E X.calls) {K : Known} {N : Nat} {h0 : H} {body : Code} (hK : KOK X.E N h0 body K) : ∀ {c : Code} {p : List Nat} {τ : Fr} {h : H} {x : AM.X} {τ' : Fr} {h' : H}, sub body p = c → (execK X K N c p τ h).run = .ok (x, τ', h') → Tri X.E N h0 c τ h x τ' h' := by
  intro c
  induction c with
  | skip => intro p τ h x τ' h' hp hr; exact Tri.of_code (.of_run g hcall hr)
  | label => intro p τ h x τ' h' hp hr; exact Tri.of_code (.of_run g hcall hr)
  | region id ops draw => intro p τ h x τ' h' hp hr; exact Tri.of_code (.of_run g hcall hr)
  | seq a b iha ihb =>
    intro p τ h x τ' h' hp hr
    have hq : sub body (p ++ [0]) = a := by rw [sub_append, hp]; simp [sub]
    have h1 : sub body (p ++ [1]) = b := by rw [sub_append, hp]; simp [sub]
    obtain ⟨⟨x1, τ1, h1'⟩, h2, hr⟩ := T.bind_ok hr
    cases x1 with
    | normal => exact (iha hq h2).seq (ihb h1 hr)
    | ret => cases hr; exact (iha hq h2).seq_stop nofun
    | exit i => cases hr; exact (iha hq h2).seq_stop nofun
  | cond o a b iha ihb =>
    intro p τ h x τ' h' hp hr
    have hq : sub body (p ++ [0]) = a := by rw [sub_append, hp]; simp [sub]
    have h1 : sub body (p ++ [1]) = b := by rw [sub_append, hp]; simp [sub]
    obtain ⟨v, h2, hr⟩ := R.tbind_ok hr
    split at hr
    · exact .cond (b := true) h2 (iha hq hr)
    · exact .cond (b := false) h2 (ihb h1 hr)
    · cases hr
  | block id b ih =>
    intro p τ h x τ' h' hp hr
    simp only [execK] at hr
    split at hr
    · rename_i k hk
      have := hK p k hk τ h x τ' h' hr
      rwa [hp] at this
    · have hq : sub body (p ++ [0]) = b := by rw [sub_append, hp]; simp [sub]
      obtain ⟨⟨x1, τ1, h1⟩, h2, hr⟩ := T.bind_ok hr
      cases hr
      exact (ih hq h2).block
  | loop b ih =>
    intro p τ h x τ' h' hp hr
    simp only [execK] at hr
    split at hr
    · rename_i k hk
      have := hK p k hk τ h x τ' h' hr
      rwa [hp] at this
    · have hq : sub body (p ++ [0]) = b := by rw [sub_append, hp]; simp [sub]
      refine Tri.loop ?_
      have key : ∀ (n : Nat) (τ : Fr) (h : H), (iterT (execK X K N b (p ++ [0])) n τ h).run = .ok (x, τ', h') → TRounds X.E N h0 b τ h x τ' h' := by
        intro n
        induction n with
        | zero => intro τ h hr; cases hr
        | succ n ihn =>
          intro τ h hr
          obtain ⟨⟨x1, τ1, h1⟩, h2, hr⟩ := T.bind_ok hr
          cases x1 with
          | normal => exact .more (ih hq h2) (ihn τ1 h1 hr)
          | ret => cases hr; exact .done (ih hq h2) nofun
          | exit i => cases hr; exact .done (ih hq h2) nofun
      exact key _ _ _ hr
  | exit i => intro p τ h x τ' h' hp hr; exact Tri.of_code (.of_run g hcall hr)
  | ret => intro p τ h x τ' h' hp hr; exact Tri.of_code (.of_run g hcall hr)
  | _ => intro p τ h x τ' h' hp hr; cases hr
end Go.Proofs.YthfkkflogbibfaaGreatDoor.AM
