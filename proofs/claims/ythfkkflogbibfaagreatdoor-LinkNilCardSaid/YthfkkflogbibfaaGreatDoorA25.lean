/- The abstract machine: what may be appended behind a slice is forgotten. -/
import Derived.Test.YthfkkflogbibfaaGreatDoorA24
namespace Go.Proofs.YthfkkflogbibfaaGreatDoor.AM
set_option linter.unusedVariables false
set_option linter.unusedSimpArgs false
set_option linter.unusedSectionVars false

mutual
/-- no tokens. -/
def forget : AV → AV
  | .fp l o => .fp (forgets l) o
  | .lst sz l tl => .lst sz (forgets l) (match tl with | .own _ => .open_ | t => t)
  | .clo f l m => .clo f (forgets l) (forgets m)
  | .agg l => .agg (forgets l)
  | .tup l => .tup (forgets l)
  | v => v
def forgets : List AV → List AV
  | [] => []
  | x :: xs => forget x :: forgets xs
end
theorem forgets_map : ∀ l : List AV, forgets l = l.map forget
  | [] => rfl
  | x :: xs => by rw [forgets, forgets_map xs]; rfl
theorem forgets_get {l : List AV} {j : Nat} {y : AV} (h : (forgets l)[j]? = some y) : ∃ z, l[j]? = some z ∧ y = forget z := by
  rw [forgets_map, List.getElem?_map] at h
  cases hz : l[j]? with
  | none => rw [hz] at h; cases h
  | some z => rw [hz] at h; exact ⟨z, rfl, (Option.some.inj h).symm⟩
theorem forgets_length (l : List AV) : (forgets l).length = l.length := by rw [forgets_map]; simp
theorem forget_cells (x : AV) : (forget x).cells = forgets x.cells := by
  cases x <;> simp [forget, AV.cells, forgets]

theorem CR.forget {F : Area} {ρ : Rho} {w : World} {v : Value} {y : AV} (h : CR F ρ w v y) : CR F ρ w v (forget y) := by
  induction h with
  | bool b => exact .bool b
  | int k n => exact .int k n
  | str s => exact .str s
  | nilp => exact .nilp
  | ptr h => exact .ptr h
  | eptr h ho => exact .eptr h ho
  | fp hb hF vs h1 h2 ho ih =>
    simp only [AM.forget]
    refine .fp hb (by rw [forgets_length]; exact hF) vs (fun j y hy => ?_) (fun j y hy => ?_) ho
    · obtain ⟨z, hz, rfl⟩ := forgets_get hy; exact h1 j z hz
    · obtain ⟨z, hz, rfl⟩ := forgets_get hy; exact ih j z hz
  | nils => exact .nils
  | @lst0 base sz tl ht => simp only [AM.forget, AM.forgets]; exact .lst0 (fun t => by cases tl with
    | own t => exact absurd rfl (ht t)
    | clip => nofun
    | open_ => nofun)
  | sl h hb hr hl hc ho => exact .sl h hb hr hl hc ho
  | vsl h hl hc ho => exact .vsl h hl hc ho
  | @lst B o n c sz cs e fz l tl hb hn hsz hF vs h1 h2 hl hr hc ht ih =>
    simp only [AM.forget]
    refine .lst hb (by rw [forgets_length]; exact hn) (fun x hx => ?_) (by rw [forgets_length]; exact hF) vs (fun i x j y hx hy => ?_) (fun i x j y hx hy => ?_) (by rw [forgets_length]; exact hl) hr (fun hcl => ?_) (fun t ht' hlt => ?_)
    · rw [forgets_map] at hx
      obtain ⟨z, hz, rfl⟩ := List.mem_map.1 hx
      rw [forget_cells, forgets_length]; exact hsz z hz
    · obtain ⟨z, hz, rfl⟩ := forgets_get hx
      rw [forget_cells] at hy
      obtain ⟨u, hu, rfl⟩ := forgets_get hy
      exact h1 i z j u hz hu
    · obtain ⟨z, hz, rfl⟩ := forgets_get hx
      rw [forget_cells] at hy
      obtain ⟨u, hu, rfl⟩ := forgets_get hy
      exact ih i z j u hz hu
    · rw [forgets_length]
      cases tl with
      | clip => exact hc rfl
      | open_ => cases hcl
      | own t => cases hcl
    · cases tl <;> cases ht'
  | nilm => exact .nilm
  | map h => exact .map h
  | nilf => exact .nilf
  | clo hf hc vs us h1 h2 h3 h4 ih1 ih2 =>
    simp only [AM.forget]
    refine .clo (by rw [forgets_length]; exact hf) (by rw [forgets_length]; exact hc) vs us (fun j y hy => ?_) (fun j y hy => ?_) (fun j y hy => ?_) (fun j y hy => ?_)
    · obtain ⟨z, hz, rfl⟩ := forgets_get hy; exact h1 j z hz
    · obtain ⟨z, hz, rfl⟩ := forgets_get hy; exact ih1 j z hz
    · obtain ⟨z, hz, rfl⟩ := forgets_get hy; exact h3 j z hz
    · obtain ⟨z, hz, rfl⟩ := forgets_get hy; exact ih2 j z hz
  | nili => exact .nili
  | agg hn vs h1 h2 ih =>
    simp only [AM.forget]
    refine .agg (by rw [forgets_length]; exact hn) vs (fun j y hy => ?_) (fun j y hy => ?_)
    · obtain ⟨z, hz, rfl⟩ := forgets_get hy; exact h1 j z hz
    · obtain ⟨z, hz, rfl⟩ := forgets_get hy; exact ih j z hz
  | tup hn vs h1 h2 ih =>
    simp only [AM.forget]
    refine .tup (by rw [forgets_length]; exact hn) vs (fun j y hy => ?_) (fun j y hy => ?_)
    · obtain ⟨z, hz, rfl⟩ := forgets_get hy; exact h1 j z hz
    · obtain ⟨z, hz, rfl⟩ := forgets_get hy; exact ih j z hz
theorem CRs.forgets {F : Area} {ρ : Rho} {w : World} {vs : List Value} {l : List AV} (h : CRs F ρ w vs l) : CRs F ρ w vs (forgets l) :=
  ⟨by rw [forgets_length]; exact h.1, fun j v y hv hy => by obtain ⟨z, hz, rfl⟩ := forgets_get hy; exact (h.2 j v z hv hz).forget⟩
end Go.Proofs.YthfkkflogbibfaaGreatDoor.AM
