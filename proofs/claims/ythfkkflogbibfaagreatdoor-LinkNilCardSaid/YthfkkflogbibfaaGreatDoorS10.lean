/- Helpers: results that hold no memory; memory at the end that is dropped; the pieces of a function put together. -/
import Derived.Test.YthfkkflogbibfaaGreatDoorS9
namespace Go.Proofs.YthfkkflogbibfaaGreatDoor.AM
set_option linter.unusedVariables false
set_option linter.unusedSimpArgs false
set_option linter.unusedSectionVars false

/-- a call whose result holds no memory, in whatever memory. -/
theorem Con.base {E : Env} (hG : ∀ i cs, E.G i = some cs → noRefs cs = true) {f : FuncId} {args : List AV} {r : AV} {h' : H} (hc : Con E f args [] r h') (hn : noRefs args = true) (hb : baseV r = true) (h : H) : Con E f args h r h := by
  intro A ρ w vs hr hargs
  have hown : ∀ (ρ1 : Rho) B off, ¬ Own ρ1 (view []) B off := fun ρ1 B off ⟨b, k, y, _, hy, _⟩ => by simp [view] at hy
  have hF : Forb (Forb A ρ (view h)) rho0 (view []) = Forb A ρ (view h) := funext fun B => funext fun off => propext ⟨fun hh => hh.resolve_left (hown _ B off), .inr⟩
  have hr' : HR E.G (Forb A ρ (view h)) rho0 w (view []) := by
    refine ⟨fun b _ => rfl, fun b x hb _ => (by simp [view] at hb), fun b hb => (by simp [view] at hb), fun b b' B k k' x x' h => (by cases h), fun B off ha => ⟨?_, hown _ B off⟩, fun i cs hi => ?_⟩
    · rcases ha with ⟨b, k, y, h1, _⟩ | ha
      · exact hr.lt h1
      · exact (hr.avo B off ha).1
    · rw [hF]; exact (hr.glob i cs hi).free rho0 (by simp only [noRef]; exact hG i cs hi)
  obtain ⟨h1, h2⟩ := hc (Forb A ρ (view h)) rho0 w vs hr' (by rw [hF]; exact hargs.free rho0 hn)
  refine ⟨h1, h2.mono fun e w' ⟨v, ρ', he, hx, _, hcr⟩ => ⟨v, ρ, he, ?_, ?_, hcr.base _ _ _ hb⟩⟩
  · exact ⟨fun _ _ h => h, fun _ _ h => .inl h, fun _ _ _ h => .inl h, hx.st, hx.size, fun B cs e fz hb => by
      obtain ⟨cs', k1, k2, k3⟩ := hx.keep B cs e fz hb
      exact ⟨cs', k1, k2, fun off ho _ => k3 off ho (hown _ B off)⟩, fun B hB _ => hx.keepo B hB (fun off => hown _ B off)⟩
  · have hk : Keeps (Forb A ρ (view h)) w (Forb A ρ (view h)) w' := fun B cs e fz hb => by
      obtain ⟨cs', k1, k2, k3⟩ := hx.keep B cs e fz hb
      exact ⟨cs', k1, k2, fun off ho hf => ⟨k3 off ho (hown _ B off), hf⟩⟩
    refine ⟨hr.dom, fun b x hb hxh => ?_, hr.hole, hr.sep, fun B off ha => ⟨Nat.lt_of_lt_of_le (hr.avo B off ha).1 hx.size, (hr.avo B off ha).2⟩, fun i cs hi => (hr.glob i cs hi).mono (fun _ _ h => h) hk⟩
    obtain ⟨B, k, k1, k2, k3⟩ := hr.blk b x hb hxh
    exact ⟨B, k, k1, Nat.lt_of_lt_of_le k2 hx.size, k3.mono (fun _ _ h => h) hk (hx.keepo B k2 (fun off => hown _ B off))⟩

/-- a function that answers a truth, from no memory: what the row wants. -/
theorem Con.bool {E : Env} {f : FuncId} {args : List AV} {b : Bool} {h' : H} (hc : Con E f args [] (.bool b) h') {w : World} {vs : Array Value} (hargs : CRs F0 rho0 w vs.toList args) (hg : ∀ i cs, E.G i = some cs → CR F0 rho0 w (.pointer (some ⟨i, 0, none⟩)) (.fp cs 0)) :
    Calls E.P f vs w fun e w' => e = .returned (.bool b) ∧ RowKit.Below w.heap.size w w' :=
  (hc area0 rho0 w vs (hr0 hg) hargs).2.mono fun e w' ⟨v, ρ', h1, h2, h3, h4⟩ => ⟨by rw [h1, toV_eq (x := .bool b) rfl h4], below_of h2⟩

/-- what is reckoned by the machine, as a contract. -/
theorem Con.of_acall {E : Env} (g : Ground E) {n : Nat} {f : FuncId} {args : List AV} {h : H} {r : AV} {h' : H} (hc : acall E n f args h = .ok (r, h')) : Con E f args h r h' := acall_ok g.hS g.hC g.hB g.hmix n f args h r h' hc
/-- contracts ask no more of their ground than the program and its listed variables. -/
theorem Con.env {E E' : Env} {f : FuncId} {args : List AV} {h : H} {r : AV} {h' : H} (hP : E.P = E'.P) (hG : E.G = E'.G) (hc : Con E f args h r h') : Con E' f args h r h' := by
  unfold Con at hc ⊢
  rw [← hP, ← hG]; exact hc

/-- a function's whole run: its answer and the memory. -/
def runF (X : SX) (K : Known) (fn : Func) (c : Code) (args : List AV) (h : H) : T (AV × H) := (execK X K (max fn.ntmps args.length) c [] (initFr args) h).bind fun r => match r.1 with
  | .exit _ => .fail
  | _ => (resA X.E r.2.1 r.2.2 fn.results.toList).t.bind fun vs => .leaf (one vs, r.2.2)
theorem Con.of_run {X : SX} (g : Ground X.E) (hcall : CallOK X.E X.calls) {f : FuncId} {fn : Func} (hfn : X.E.P.funcs[f]? = some fn) {c : Code} (hb : fn.body = some c) (hname : (fn.name == "runtime.NumGoroutine") = false) {args : List AV} {h : H} {K : Known}
    (hK : KOK X.E (max fn.ntmps args.length) h c K) {r : AV} {h' : H} (hr : (runF X K fn c args h).run = .ok (r, h')) : Con X.E f args h r h' := by
  obtain ⟨⟨x, τ, h1⟩, h2, hr⟩ := T.bind_ok hr
  have ht := execK_ok g hcall hK (sub_nil c) h2
  have key : ∀ (hx : ∀ i, x ≠ .exit i), ((resA X.E τ h1 fn.results.toList).t.bind fun vs => T.leaf (one vs, h1)).run = .ok (r, h') → Con X.E f args h r h' := by
    intro hx hr
    obtain ⟨rs, h3, hr⟩ := R.tbind_ok hr
    cases hr
    exact Con.of_tri hfn hb hname rfl ht hx h3
  cases x with
  | normal => exact key nofun hr
  | ret => exact key nofun hr
  | exit i => cases hr

/-- memory at the end that nothing looks at any more is dropped; slots that nothing looks at are forgotten. -/
theorem Wk.cut {E : Env} {N : Nat} {h0 : H} (hG : ∀ i cs, E.G i = some cs → noRefs cs = true) {τ τ' : Fr} {h h' extra : H} (he : h = h' ++ extra) (hn : h0.length ≤ h'.length) (hh : ∀ x, x ∈ h' → x ≠ .hole)
    (hb : ∀ x, x ∈ h' → renB (fun b => if b < h'.length then b else b + extra.length) x = x)
    (hf : ∀ i, τ' i = top ∨ (τ i = τ' i ∧ AM.ren (fun b => if b < h'.length then b else b + extra.length) (τ' i) = τ' i ∧ ∀ sz l, τ i ≠ .fsl sz l)) : Wk E N h0 τ h τ' h' := by
  subst he
  refine Wk.ren hG (κ := fun b => if b < h'.length then b else b + extra.length) ⟨fun b hb => ?_, fun b hb => ?_, fun b hb => ?_, fun i x hx => ?_, fun i j x y hx hy _ _ hij => ?_, fun i => ?_⟩
  · rw [if_pos (by omega)]
  · split <;> omega
  · rw [if_neg (by omega), List.length_append]; omega
  · have hi := lt_of_getl hx
    refine ⟨hh x (List.mem_of_getElem? hx), x, ?_, ?_⟩
    · rw [if_pos hi, List.getElem?_append_left hi]; exact hx
    · rw [hb x (List.mem_of_getElem? hx)]; exact LeB.refl x
  · have hi := lt_of_getl hx
    have hj := lt_of_getl hy
    simpa [hi, hj] using hij
  · rcases hf i with h1 | ⟨h1, h2, h3⟩
    · exact .inl h1
    · refine .inr ⟨?_, h3⟩
      rw [h2, h1]; exact Le.refl _
theorem look_all : ∀ (l : List (Nat × AV)) (i : Nat), look l i = top ∨ ∃ p, p ∈ l ∧ look l i = p.2
  | [], i => .inl rfl
  | (j, v) :: l, i => by
    simp only [look]
    split
    · exact .inr ⟨(j, v), List.mem_cons_self .., rfl⟩
    · rcases look_all l i with h | ⟨p, h1, h2⟩
      · exact .inl h
      · exact .inr ⟨p, List.mem_cons_of_mem _ h1, h2⟩
def isFsl : AV → Bool
  | .fsl .. => true
  | _ => false
/-- memory at the end is dropped; the slots stay. -/
theorem Wk.cutF {E : Env} {N : Nat} {h0 : H} (hG : ∀ i cs, E.G i = some cs → noRefs cs = true) {sl : List (Nat × AV)} {h' extra : H} (hn : h0.length ≤ h'.length) (hh : ∀ x, x ∈ h' → x ≠ .hole)
    (hb : ∀ x, x ∈ h' → renB (fun b => if b < h'.length then b else b + extra.length) x = x)
    (hs : ∀ p, p ∈ sl → AM.ren (fun b => if b < h'.length then b else b + extra.length) p.2 = p.2 ∧ isFsl p.2 = false) : Wk E N h0 (AM.frm sl) (h' ++ extra) (AM.frm sl) h' := by
  refine Wk.cut hG rfl hn hh hb (fun i => ?_)
  rcases look_all sl i with h1 | ⟨p, h1, h2⟩
  · exact .inl h1
  · refine .inr ⟨rfl, by show AM.ren _ (look sl i) = look sl i; rw [h2]; exact (hs p h1).1, fun sz l e => ?_⟩
    have : look sl i = .fsl sz l := e
    rw [h2] at this
    have h3 := (hs p h1).2
    rw [this] at h3; cases h3
/-- fewer slots are known. -/
theorem Wk.fewer {E : Env} {N : Nat} {h0 : H} {τ : Fr} {sl : List (Nat × AV)} {h : H} (hs : ∀ p, p ∈ sl → τ p.1 = p.2) : Wk E N h0 τ h (AM.frm sl) h := by
  refine Wk.frm (E := E) fun i => ?_
  have key : ∀ (l : List (Nat × AV)), (∀ p, p ∈ l → τ p.1 = p.2) → look l i = τ i ∨ look l i = top := by
    intro l
    induction l with
    | nil => intro _; exact .inr rfl
    | cons p l ih =>
      intro hl
      obtain ⟨j, v⟩ := p
      simp only [look]
      split
      · rename_i he
        rw [Nat.eq_of_beq_eq_true he]
        exact .inl (hl (j, v) (List.mem_cons_self ..)).symm
      · exact ih fun p hp => hl p (List.mem_cons_of_mem _ hp)
  exact key sl hs
end Go.Proofs.YthfkkflogbibfaaGreatDoor.AM
