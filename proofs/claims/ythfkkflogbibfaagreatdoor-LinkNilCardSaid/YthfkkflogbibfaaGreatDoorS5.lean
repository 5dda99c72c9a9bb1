/- Code and calls as relations between states of the abstract machine. -/
import Derived.Test.YthfkkflogbibfaaGreatDoorS4
namespace Go.Proofs.YthfkkflogbibfaaGreatDoor.AM
set_option linter.unusedVariables false
set_option linter.unusedSimpArgs false
set_option linter.unusedSectionVars false

/-- what code does, from one state to another. -/
def CodeOK (E : Env) (N : Nat) (c : Code) (τ : Fr) (h : H) (x : X) (τ' : Fr) (h' : H) : Prop :=
  ∀ (A : Area) (s0 nn : Nat) (rd : Option Nat) (ρ : Rho) (w : World) (a : Act), (rd = none ∨ noRF c = true) → St E A ρ w a τ (view h) N s0 → c.wpIn (fw rd) nn E.P (Post E A N s0 ρ w h x τ' h') a w
/-- what a call comes to. -/
def Con (E : Env) (f : FuncId) (args : List AV) (h : H) (r : AV) (h' : H) : Prop :=
  ∀ (A : Area) (ρ : Rho) (w : World) (vs : Array Value), HR E.G A ρ w (view h) → CRs (Forb A ρ (view h)) ρ w vs.toList args →
    (∀ W, (callFunc f vs).run E.P W = .ok (.enter f vs) W) ∧ Calls E.P f vs w fun e w' => ∃ v ρ', e = .returned v ∧ Ext (Own ρ (view h)) ρ w (Own ρ' (view h')) ρ' w' ∧ HR E.G A ρ' w' (view h') ∧ CR (Forb A ρ' (view h')) ρ' w' v r
theorem callOK_con {E : Env} {call : CallF} : CallOK E call ↔ ∀ f args h r h', call f args h = .ok (r, h') → Con E f args h r h' := Iff.rfl

/-- what every program's machine may lean on. -/
structure Ground (E : Env) : Prop where
  hS : Smet E.P E.S
  hC : COK E
  hB : BOK E
  hmix : E.P.follows .mixedOrders = true

theorem CodeOK.of_run {X : SX} (g : Ground X.E) (hcall : CallOK X.E X.calls) {N : Nat} {c : Code} {τ : Fr} {h : H} {x : AM.X} {τ' : Fr} {h' : H} (hr : (execT X N c τ h).run = .ok (x, τ', h')) : CodeOK X.E N c τ h x τ' h' :=
  fun A s0 nn rd ρ w a hrd hs => exec_wp g.hS g.hC g.hB hcall g.hmix c rd nn τ h x τ' h' ρ w a hrd (execT_ok hr) hs

theorem CodeOK.seq {E : Env} {N : Nat} {c d : Code} {τ τ1 τ' : Fr} {h h1 h' : H} {x : X} (hc : CodeOK E N c τ h .normal τ1 h1) (hd : CodeOK E N d τ1 h1 x τ' h') : CodeOK E N (.seq c d) τ h x τ' h' := by
  intro A s0 nn rd ρ w a hrd hs
  refine wpIn_seq (wpIn_mono (hc A s0 nn rd ρ w a (hrd.imp (fun y => y) fun h => by simp only [noRF, Bool.and_eq_true] at h; exact h.1) hs) ?_)
  rintro e a1 w1 ⟨rfl, ρ1, hx1, hst1⟩
  exact wpIn_mono (hd A s0 nn rd ρ1 w1 a1 (hrd.imp (fun y => y) fun h => by simp only [noRF, Bool.and_eq_true] at h; exact h.2) hst1) (fun e a2 w2 hp => hp.from hx1)
theorem CodeOK.seq_stop {E : Env} {N : Nat} {c d : Code} {τ τ' : Fr} {h h' : H} {x : X} (hc : CodeOK E N c τ h x τ' h') (hx : x ≠ .normal) : CodeOK E N (.seq c d) τ h x τ' h' := by
  intro A s0 nn rd ρ w a hrd hs
  refine wpIn_seq (wpIn_mono (hc A s0 nn rd ρ w a (hrd.imp (fun y => y) fun h => by simp only [noRF, Bool.and_eq_true] at h; exact h.1) hs) ?_)
  rintro e a1 w1 ⟨rfl, ρ1, hx1, hst1⟩
  cases x with
  | normal => exact absurd rfl hx
  | ret => exact ⟨rfl, ρ1, hx1, hst1⟩
  | exit id => exact ⟨rfl, ρ1, hx1, hst1⟩
/-- how code in a block ends. -/
def X.inBlock (id : Nat) : X → X
  | .exit i => if i = id then .normal else .exit i
  | x => x
theorem CodeOK.block {E : Env} {N id : Nat} {c : Code} {τ τ' : Fr} {h h' : H} {x : X} (hc : CodeOK E N c τ h x τ' h') : CodeOK E N (.block id c) τ h (x.inBlock id) τ' h' := by
  intro A s0 nn rd ρ w a hrd hs
  refine wpIn_block (wpIn_mono (hc A s0 nn rd ρ w a (hrd.imp (fun y => y) fun h => by simpa only [noRF] using h) hs) ?_)
  rintro e a1 w1 ⟨rfl, ρ1, hx1, hst1⟩
  cases x with
  | normal => exact ⟨rfl, ρ1, hx1, hst1⟩
  | ret => exact ⟨rfl, ρ1, hx1, hst1⟩
  | exit i =>
    simp only [X.exit', Exit.inBlock, X.inBlock]
    by_cases hi : i = id
    · rw [if_pos hi]; rw [if_pos hi]; exact ⟨rfl, ρ1, hx1, hst1⟩
    · rw [if_neg hi]; rw [if_neg hi]; exact ⟨rfl, ρ1, hx1, hst1⟩
theorem CodeOK.cond {E : Env} {N : Nat} {c d : Code} {o : Operand} {b : Bool} {τ τ' : Fr} {h h' : H} {x : X} (hb : ev E τ o = .ok (.bool b)) (hc : CodeOK E N (match b with | true => c | false => d) τ h x τ' h') : CodeOK E N (.cond o c d) τ h x τ' h' := by
  intro A s0 nn rd ρ w a hrd hs
  have hv := toV_eq (x := .bool b) (by rfl) (ev_cr hs.fr hs.hr.glob' hb)
  cases b with
  | true => exact wpIn_cond_true hv (hc A s0 nn rd ρ w a (hrd.imp (fun y => y) fun h => by simp only [noRF, Bool.and_eq_true] at h; exact h.1) hs)
  | false => exact wpIn_cond_false hv (hc A s0 nn rd ρ w a (hrd.imp (fun y => y) fun h => by simp only [noRF, Bool.and_eq_true] at h; exact h.2) hs)

/-- rounds of a loop. -/
inductive Rounds (E : Env) (N : Nat) (c : Code) : Fr → H → X → Fr → H → Prop
  | done {τ h x τ' h'} (hc : CodeOK E N c τ h x τ' h') (hx : x ≠ .normal) : Rounds E N c τ h x τ' h'
  | more {τ h τ1 h1 x τ' h'} (hc : CodeOK E N c τ h .normal τ1 h1) (hr : Rounds E N c τ1 h1 x τ' h') : Rounds E N c τ h x τ' h'
theorem CodeOK.loop {E : Env} {N : Nat} {c : Code} {τ τ' : Fr} {h h' : H} {x : X} (hr : Rounds E N c τ h x τ' h') : CodeOK E N (.loop c) τ h x τ' h' := by
  intro A s0 nn rd ρ w a hrd hs
  have hrd' : rd = none ∨ noRF c = true := hrd.imp (fun y => y) fun h => by simpa only [noRF] using h
  have key : ∀ {τ1 : Fr} {h1 : H} {x : X} {τ' : Fr} {h' : H}, Rounds E N c τ1 h1 x τ' h' → ∃ n, ∀ (ρ1 : Rho) (w1 : World) (a1 : Act), St E A ρ1 w1 a1 τ1 (view h1) N s0 → Ext (Own ρ (view h)) ρ w (Own ρ1 (view h1)) ρ1 w1 →
      Code.roundsIn (fw rd) nn E.P c (Post E A N s0 ρ w h x τ' h') n a1 w1 := by
    clear hr
    intro τ1 h1 x τ' h' hr1
    induction hr1 with
    | done hc hx =>
      rename_i τ1 h1 x τ' h'
      refine ⟨1, fun ρ1 w1 a1 hs1 hx1 => ?_⟩
      rw [roundsIn_succ]
      refine wpIn_mono (hc A s0 nn rd ρ1 w1 a1 hrd' hs1) ?_
      rintro e a2 w2 ⟨rfl, ρ2, hx2, hst2⟩
      cases x with
      | normal => exact absurd rfl hx
      | ret => exact ⟨rfl, ρ2, hx1.trans hx2, hst2⟩
      | exit id => exact ⟨rfl, ρ2, hx1.trans hx2, hst2⟩
    | more hc hr2 ih =>
      obtain ⟨n, ih⟩ := ih
      refine ⟨n + 1, fun ρ1 w1 a1 hs1 hx1 => ?_⟩
      rw [roundsIn_succ]
      refine wpIn_mono (hc A s0 nn rd ρ1 w1 a1 hrd' hs1) ?_
      rintro e a2 w2 ⟨rfl, ρ2, hx2, hst2⟩
      exact ih ρ2 w2 a2 hst2 (hx1.trans hx2)
  obtain ⟨n, hn⟩ := key hr
  exact wpIn_loop_rounds n (hn ρ w a hs (Ext.refl _ _ _))

/-- a function's call, by its code. -/
theorem Con.of_body {E : Env} {f : FuncId} {fn : Func} (hfn : E.P.funcs[f]? = some fn) {c : Code} (hb : fn.body = some c) (hname : (fn.name == "runtime.NumGoroutine") = false) {args : List AV} {h : H} {x : X} {τ : Fr} {h' : H}
    (hc : CodeOK E (max fn.ntmps args.length) c (initFr args) h x τ h') (hx : ∀ i, x ≠ .exit i) {rs : List AV} (hres : resA E τ h' fn.results.toList = .ok rs) : Con E f args h (match rs with | [v] => v | rs => .tup rs) h' := by
  intro A ρ w vs hr hargs
  refine ⟨fun W => ?_, ?_⟩
  · unfold callFunc
    simp only [Sem.run_bind, run_program, Result.andThen_ok, hfn]
    rw [if_neg (by simp [hname])]
    simp [hb]
  · have hl : vs.size = args.length := by simpa using hargs.1
    have hst : St E A ρ w { tmps := vs ++ Array.replicate (fn.ntmps - vs.size) Go.undef, defers := [] } (initFr args) (view h) (max fn.ntmps args.length) w.heap.size :=
      ⟨hr, init_frame hargs fn.ntmps, by simp; omega, DeOK.nil (Nat.le_refl _)⟩
    have hw := hc A w.heap.size 0 none ρ w _ (.inl rfl) hst
    refine callsIn_wide.1 (callsIn_of_wp_marks (F := Fence.wide) (n := 0) hfn hb trivial (wpIn_mono hw ?_) rfl)
    rintro e a' w2 ⟨rfl, ρ', hx2, hst2⟩
    have fin : ∀ (w' : World), HR E.G A ρ' w' (view h') → FRel (Forb A ρ' (view h')) ρ' w' a'.tmps τ → Ext (Own ρ (view h)) ρ w (Own ρ' (view h')) ρ' w' →
        ∃ v, (results fn a'.tmps).run E.P w' = .ok v w' ∧ ∃ v1 ρ', Ending.returned v = .returned v1 ∧ Ext (Own ρ (view h)) ρ w (Own ρ' (view h')) ρ' w' ∧ HR E.G A ρ' w' (view h') ∧ CR (Forb A ρ' (view h')) ρ' w' v1 (match rs with | [v] => v | rs => .tup rs) := by
      intro w' hr' hf' hx'
      obtain ⟨us, h2, h3⟩ := resA_run hr' hf' hres
      refine ⟨if h : us.length = 1 then us[0] else .tuple us.toArray, ?_, _, ρ', rfl, hx', hr', ?_⟩
      · rw [results_eq, Sem.run_bind, Array.mapM_eq_mapM_toList, Sem.run_map, h2]
        simp only [Result.andThen_ok, Sem.run_pure]
        congr 1
      · cases rs with
        | nil =>
          obtain rfl := List.eq_nil_of_length_eq_zero h3.1
          exact .tup_of .nil
        | cons y ys =>
          cases us with
          | nil => have := h3.1; simp at this
          | cons u us =>
            cases ys with
            | nil =>
              obtain rfl : us = [] := by have := h3.1; simpa using this
              simpa using h3.head
            | cons y2 ys =>
              have hlen : ¬ (u :: us).length = 1 := by have := h3.1; simp at this ⊢; intro e; simp [e] at this
              rw [dif_neg hlen]
              exact .tup_of (by simpa using h3)
    cases x with
    | normal => exact leaves_ok fin a'.defers w2 hst2.de hst2.hr hst2.fr hx2
    | ret => exact leaves_ok fin a'.defers w2 hst2.de hst2.hr hst2.fr hx2
    | exit i => exact absurd rfl (hx i)
end Go.Proofs.YthfkkflogbibfaaGreatDoor.AM
