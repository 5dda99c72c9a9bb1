/- The abstract machine: calls that were reckoned once, as contracts. -/
import Derived.Test.YthfkkflogbibfaaGreatDoorA20
namespace Go.Proofs.YthfkkflogbibfaaGreatDoor.AM
set_option linter.unusedVariables false
set_option linter.unusedSimpArgs false
set_option linter.unusedSectionVars false

mutual
/-- it holds no address of the machine's own. -/
def noRef : AV → Bool
  | .ptr .. | .eptr .. | .sl .. | .vsl .. | .map _ | .fsl .. => false
  | .fp l _ => noRefs l
  | .lst _ l tl => noRefs l && (match tl with | .own _ => false | _ => true)
  | .clo _ l m => noRefs l && noRefs m
  | .agg l => noRefs l
  | .tup l => noRefs l
  | _ => true
def noRefs : List AV → Bool
  | [] => true
  | x :: xs => noRef x && noRefs xs
end
mutual
/-- it is a number, a text and the like, or made of such. -/
def baseV : AV → Bool
  | .bool _ | .int .. | .str _ | .nilp | .nils | .nilm | .nilf | .nili => true
  | .agg l => baseVs l
  | .tup l => baseVs l
  | _ => false
def baseVs : List AV → Bool
  | [] => true
  | x :: xs => baseV x && baseVs xs
end
theorem noRefs_get : ∀ {l : List AV}, noRefs l = true → ∀ {j : Nat} {y : AV}, l[j]? = some y → noRef y = true
  | [], _, j, y, h => by simp at h
  | x :: xs, hn, j, y, h => by
    simp only [noRefs, Bool.and_eq_true] at hn
    cases j with
    | zero => simp at h; subst h; exact hn.1
    | succ j => exact noRefs_get hn.2 (by simpa using h)
theorem baseVs_get : ∀ {l : List AV}, baseVs l = true → ∀ {j : Nat} {y : AV}, l[j]? = some y → baseV y = true
  | [], _, j, y, h => by simp at h
  | x :: xs, hn, j, y, h => by
    simp only [baseVs, Bool.and_eq_true] at hn
    cases j with
    | zero => simp at h; subst h; exact hn.1
    | succ j => exact baseVs_get hn.2 (by simpa using h)
theorem noRef_cell {x y : AV} {j : Nat} (h : noRef x = true) (hy : x.cells[j]? = some y) : noRef y = true := by
  cases x with
  | agg l => exact noRefs_get (l := l) (by simpa only [noRef] using h) hy
  | _ =>
    cases j with
    | zero => simp [AV.cells] at hy; subst hy; exact h
    | succ j => simp [AV.cells] at hy

theorem CR.free {F : Area} {ρ : Rho} {w : World} {v : Value} {y : AV} (h : CR F ρ w v y) (ρ' : Rho) : noRef y = true → CR F ρ' w v y := by
  induction h with
  | bool b => intro _; exact .bool b
  | int k n => intro _; exact .int k n
  | str s => intro _; exact .str s
  | nilp => intro _; exact .nilp
  | ptr h => intro hn; simp [noRef] at hn
  | eptr h ho => intro hn; simp [noRef] at hn
  | fp hb hF vs h1 h2 ho ih =>
    intro hn
    simp only [noRef] at hn
    exact .fp hb hF vs h1 (fun j y hy => ih j y hy (noRefs_get hn hy)) ho
  | nils => intro _; exact .nils
  | lst0 ht => intro _; exact .lst0 ht
  | sl h hb hr hl hc ho => intro hn; simp [noRef] at hn
  | vsl h hl hc ho => intro hn; simp [noRef] at hn
  | lst hb hn' hsz hF vs h1 h2 hl hr hc ht ih =>
    intro hn
    simp only [noRef, Bool.and_eq_true] at hn
    refine .lst hb hn' hsz hF vs h1 (fun i x j y hx hy => ih i x j y hx hy (noRef_cell (noRefs_get hn.1 hx) hy)) hl hr hc (fun t ht' _ => ?_)
    subst ht'; simp at hn
  | nilm => intro _; exact .nilm
  | map h => intro hn; simp [noRef] at hn
  | nilf => intro _; exact .nilf
  | clo hf hc vs us h1 h2 h3 h4 ih1 ih2 =>
    intro hn
    simp only [noRef, Bool.and_eq_true] at hn
    exact .clo hf hc vs us h1 (fun j y hy => ih1 j y hy (noRefs_get hn.1 hy)) h3 (fun j y hy => ih2 j y hy (noRefs_get hn.2 hy))
  | nili => intro _; exact .nili
  | agg hn' vs h1 h2 ih => intro hn; simp only [noRef] at hn; exact .agg hn' vs h1 (fun j y hy => ih j y hy (noRefs_get hn hy))
  | tup hn' vs h1 h2 ih => intro hn; simp only [noRef] at hn; exact .tup hn' vs h1 (fun j y hy => ih j y hy (noRefs_get hn hy))
theorem CR.base {F : Area} {ρ : Rho} {w : World} {v : Value} {y : AV} (h : CR F ρ w v y) (F' : Area) (ρ' : Rho) (w' : World) : baseV y = true → CR F' ρ' w' v y := by
  induction h with
  | bool b => intro _; exact .bool b
  | int k n => intro _; exact .int k n
  | str s => intro _; exact .str s
  | nilp => intro _; exact .nilp
  | nils => intro _; exact .nils
  | nilm => intro _; exact .nilm
  | nilf => intro _; exact .nilf
  | nili => intro _; exact .nili
  | agg hn' vs h1 h2 ih => intro hn; simp only [baseV] at hn; exact .agg hn' vs h1 (fun j y hy => ih j y hy (baseVs_get hn hy))
  | tup hn' vs h1 h2 ih => intro hn; simp only [baseV] at hn; exact .tup hn' vs h1 (fun j y hy => ih j y hy (baseVs_get hn hy))
  | _ => intro hn; simp [baseV] at hn
theorem CRs.free {F : Area} {ρ : Rho} {w : World} {vs : List Value} {l : List AV} (h : CRs F ρ w vs l) (ρ' : Rho) (hn : noRefs l = true) : CRs F ρ' w vs l :=
  ⟨h.1, fun j v y hv hy => (h.2 j v y hv hy).free ρ' (noRefs_get hn hy)⟩

theorem baseV_thaw : ∀ v : AV, baseV v = true → noF v = true := by
  intro v
  exact AV.rec (motive_1 := fun v => baseV v = true → noF v = true) (motive_2 := fun l => baseVs l = true → noFs l = true)
    (fun _ _ => rfl) (fun _ _ _ => rfl) (fun _ _ => rfl) (fun _ => rfl) (fun _ _ h => by simp [baseV] at h) (fun _ _ _ _ h => by simp [baseV] at h) (fun _ _ _ h => by simp [baseV] at h) (fun _ => rfl) (fun _ _ _ _ _ h => by simp [baseV] at h)
    (fun _ _ _ _ h => by simp [baseV] at h) (fun _ _ _ _ h => by simp [baseV] at h) (fun _ _ _ h => by simp [baseV] at h) (fun _ => rfl) (fun _ h => by simp [baseV] at h) (fun _ => rfl) (fun _ _ _ _ _ h => by simp [baseV] at h) (fun _ => rfl)
    (fun cs ih h => by simp only [baseV] at h; simp only [noF]; exact ih h) (fun cs ih h => by simp only [baseV] at h; simp only [noF]; exact ih h)
    (fun _ => rfl) (fun x xs h1 h2 h => by simp only [baseVs, Bool.and_eq_true] at h; simp only [noFs, Bool.and_eq_true]; exact ⟨h1 h.1, h2 h.2⟩) v

/-- a call that was reckoned from no memory of the machine's own, in whatever memory. -/
theorem memo_ok {E : Env} (hS : Smet E.P E.S) (hC : COK E) (hB : BOK E) (hmix : E.P.follows .mixedOrders = true) (hG : ∀ i cs, E.G i = some cs → noRefs cs = true) {n : Nat} {f : FuncId} {args : List AV} {r : AV} {h' : H} (hc : acall E n f args [] = .ok (r, h')) (hn : noRefs args = true) (hb : baseV r = true) :
    ∀ (h : H) (A : Area) (ρ : Rho) (w : World) (vs : Array Value), HR E.G A ρ w (view h) → CRs (Forb A ρ (view h)) ρ w vs.toList args →
    (∀ W, (callFunc f vs).run E.P W = .ok (.enter f vs) W) ∧ Calls E.P f vs w fun e w' => ∃ v ρ', e = .returned v ∧ Ext (Own ρ (view h)) ρ w (Own ρ' (view h)) ρ' w' ∧ HR E.G A ρ' w' (view h) ∧ CR (Forb A ρ' (view h)) ρ' w' v r := by
  intro h A ρ w vs hr hargs
  have hown : ∀ (ρ1 : Rho) B off, ¬ Own ρ1 (view []) B off := fun ρ1 B off ⟨b, k, y, _, hy, _⟩ => by simp [view] at hy
  have hF : Forb (Forb A ρ (view h)) rho0 (view []) = Forb A ρ (view h) := funext fun B => funext fun off => propext ⟨fun hh => hh.resolve_left (hown _ B off), .inr⟩
  have hr' : HR E.G (Forb A ρ (view h)) rho0 w (view []) := by
    refine ⟨fun b _ => rfl, fun b x hb _ => (by simp [view] at hb), fun b hb => (by simp [view] at hb), fun b b' B k k' x x' h => (by cases h), fun B off ha => ⟨?_, hown _ B off⟩, fun i cs hi => ?_⟩
    · rcases ha with ⟨b, k, y, h1, _⟩ | ha
      · exact hr.lt h1
      · exact (hr.avo B off ha).1
    · rw [hF]; exact (hr.glob i cs hi).free rho0 (by simp only [noRef]; exact hG i cs hi)
  obtain ⟨h1, h2⟩ := acall_ok hS hC hB hmix n f args [] r h' hc (Forb A ρ (view h)) rho0 w vs hr' (by rw [hF]; exact hargs.free rho0 hn)
  refine ⟨h1, h2.mono fun e w' ⟨v, ρ', he, hx, _, hcr⟩ => ⟨v, ρ, he, ?_, ?_, hcr.base _ _ _ hb⟩⟩
  · exact ⟨fun _ _ h => h, fun _ _ h => .inl h, fun _ _ _ h => .inl h, hx.st, hx.size, fun B cs e fz hb => by
      obtain ⟨cs', k1, k2, k3⟩ := hx.keep B cs e fz hb
      exact ⟨cs', k1, k2, fun off ho _ => k3 off ho (hown _ B off)⟩, fun B hB _ => hx.keepo B hB (fun off => hown _ B off)⟩
  · have hk : Keeps (Forb A ρ (view h)) w (Forb A ρ (view h)) w' := fun B cs e fz hb => by
      obtain ⟨cs', k1, k2, k3⟩ := hx.keep B cs e fz hb
      exact ⟨cs', k1, k2, fun off ho hf => ⟨k3 off ho (hown _ B off), hf⟩⟩
    refine ⟨hr.dom, fun b x hb hxh => ?_, hr.hole, hr.sep, fun B off ha => ⟨Nat.lt_of_lt_of_le (hr.avo B off ha).1 hx.size, (hr.avo B off ha).2⟩, fun i cs hi => (hr.glob i cs hi).mono (fun _ _ h => h) hk⟩
    obtain ⟨B, k, k1, k2, k3⟩ := hr.blk b x hb hxh
    exact ⟨B, k, k1, Nat.lt_of_lt_of_le k2 hx.size, k3.mono (fun _ _ h => h) hk (hx.keepo B k2 (fun off => hown _ B off))⟩
end Go.Proofs.YthfkkflogbibfaaGreatDoor.AM
