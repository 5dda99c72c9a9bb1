/- The abstract machine: what is read of memory as data, as trees; the program's listed variables. -/
import Derived.Test.YtaooangghieljaaGreatDoorA20
import Derived.ChangeArms
import Derived.OpenShut
import Derived.LaidSub
namespace Go.Proofs.YtaooangghieljaaGreatDoor.AM
set_option linter.unusedVariables false
set_option linter.unusedSimpArgs false
set_option linter.unusedSectionVars false

section
variable {H : Type}
def treeF (P : Program) (g : TypeId → DataW H → Option (List AV)) : List Field → List (DataW H) → Nat → Option (List AV)
  | [], [], _ => some []
  | f :: fs, d :: ds, off => if f.offset = off then (g f.type d).bind fun l => if l.length = P.cellsOf f.type then (treeF P g fs ds (off + l.length)).map (l ++ ·) else none else none
  | _, _, _ => none
def treeL (g : DataW H → Option (List AV)) (sz : Nat) : List (DataW H) → Option (List AV)
  | [] => some []
  | d :: ds => (g d).bind fun l => if l.length = sz then (treeL g sz ds).map (l ++ ·) else none
/-- the cells that a datum of a type is read from. -/
def tree (P : Program) : Nat → TypeId → DataW H → Option (List AV)
  | 0, _, _ => none
  | n + 1, t, d => match P.underlying t, d with
    | some .bool, .lit (.bool b) => some [.bool b]
    | some (.int k), .lit (.int k' m) => if k = k' then some [.int k m] else none
    | some .string, .lit (.string bs) => some [.str ⟨bs.toArray⟩]
    | some (.struct fs), .agg ds => (treeF P (tree P n) fs.toList ds 0).bind fun l => if l.length = P.cellsOf t then some l else none
    | some (.array k e), .agg ds => if ds.length = k then (treeL (tree P n e) (P.cellsOf e) ds).bind fun l => if l.length = P.cellsOf t then some l else none else none
    | _, _ => none

variable {P : Program} {enc : TypeId × Value → H} {w : World} {base : Nat} {sp : Nat → Bool} {held : Bool} {F : Area} {ρ : Rho}

end

end Go.Proofs.YtaooangghieljaaGreatDoor.AM

/- The abstract machine: calls that were reckoned once, as contracts. -/
namespace Go.Proofs.YtaooangghieljaaGreatDoor.AM
set_option linter.unusedVariables false
set_option linter.unusedSimpArgs false
set_option linter.unusedSectionVars false

mutual
/-- it holds no address of the machine's own. -/
def noRef : AV → Bool
  | .ptr .. | .eptr .. | .sl .. | .vsl .. | .map _ | .fsl .. => false
  | .fp l _ => noRefs l
  | .lst _ l tl => noRefs l && (match tl with | .own _ => false | _ => true)
  | .clo _ l m => noRefs l && noRefs m
  | .agg l => noRefs l
  | .tup l => noRefs l
  | _ => true
def noRefs : List AV → Bool
  | [] => true
  | x :: xs => noRef x && noRefs xs
end
mutual
/-- it is a number, a text and the like, or made of such. -/
def baseV : AV → Bool
  | .bool _ | .int .. | .str _ | .nilp | .nils | .nilm | .nilf | .nili => true
  | .agg l => baseVs l
  | .tup l => baseVs l
  | _ => false
def baseVs : List AV → Bool
  | [] => true
  | x :: xs => baseV x && baseVs xs
end
theorem noRefs_get : ∀ {l : List AV}, noRefs l = true → ∀ {j : Nat} {y : AV}, l[j]? = some y → noRef y = true
  | [], _, j, y, h => by simp at h
  | x :: xs, hn, j, y, h => by
    simp only [noRefs, Bool.and_eq_true] at hn
    cases j with
    | zero => simp at h; subst h; exact hn.1
    | succ j => exact noRefs_get hn.2 (by simpa using h)
theorem baseVs_get : ∀ {l : List AV}, baseVs l = true → ∀ {j : Nat} {y : AV}, l[j]? = some y → baseV y = true
  | [], _, j, y, h => by simp at h
  | x :: xs, hn, j, y, h => by
    simp only [baseVs, Bool.and_eq_true] at hn
    cases j with
    | zero => simp at h; subst h; exact hn.1
    | succ j => exact baseVs_get hn.2 (by simpa using h)
theorem noRef_cell {x y : AV} {j : Nat} (h : noRef x = true) (hy : x.cells[j]? = some y) : noRef y = true := by
  cases x with
  | agg l => exact noRefs_get (l := l) (by simpa only [noRef] using h) hy
  | _ =>
    cases j with
    | zero => simp [AV.cells] at hy; subst hy; exact h
    | succ j => simp [AV.cells] at hy

theorem CR.free {F : Area} {ρ : Rho} {w : World} {v : Value} {y : AV} (h : CR F ρ w v y) (ρ' : Rho) : noRef y = true → CR F ρ' w v y := by
  induction h with
  | bool b => intro _; exact .bool b
  | int k n => intro _; exact .int k n
  | str s => intro _; exact .str s
  | nilp => intro _; exact .nilp
  | ptr h => intro hn; simp [noRef] at hn
  | eptr h ho => intro hn; simp [noRef] at hn
  | fp hb hF vs h1 h2 ho ih =>
    intro hn
    simp only [noRef] at hn
    exact .fp hb hF vs h1 (fun j y hy => ih j y hy (noRefs_get hn hy)) ho
  | nils => intro _; exact .nils
  | lst0 ht => intro _; exact .lst0 ht
  | sl h hb hr hl hc ho => intro hn; simp [noRef] at hn
  | vsl h hl hc ho => intro hn; simp [noRef] at hn
  | lst hb hn' hsz hF vs h1 h2 hl hr hc ht ih =>
    intro hn
    simp only [noRef, Bool.and_eq_true] at hn
    refine .lst hb hn' hsz hF vs h1 (fun i x j y hx hy => ih i x j y hx hy (noRef_cell (noRefs_get hn.1 hx) hy)) hl hr hc (fun t ht' _ => ?_)
    subst ht'; simp at hn
  | nilm => intro _; exact .nilm
  | map h => intro hn; simp [noRef] at hn
  | nilf => intro _; exact .nilf
  | clo hf hc vs us h1 h2 h3 h4 ih1 ih2 =>
    intro hn
    simp only [noRef, Bool.and_eq_true] at hn
    exact .clo hf hc vs us h1 (fun j y hy => ih1 j y hy (noRefs_get hn.1 hy)) h3 (fun j y hy => ih2 j y hy (noRefs_get hn.2 hy))
  | nili => intro _; exact .nili
  | agg hn' vs h1 h2 ih => intro hn; simp only [noRef] at hn; exact .agg hn' vs h1 (fun j y hy => ih j y hy (noRefs_get hn hy))
  | tup hn' vs h1 h2 ih => intro hn; simp only [noRef] at hn; exact .tup hn' vs h1 (fun j y hy => ih j y hy (noRefs_get hn hy))
theorem CR.base {F : Area} {ρ : Rho} {w : World} {v : Value} {y : AV} (h : CR F ρ w v y) (F' : Area) (ρ' : Rho) (w' : World) : baseV y = true → CR F' ρ' w' v y := by
  induction h with
  | bool b => intro _; exact .bool b
  | int k n => intro _; exact .int k n
  | str s => intro _; exact .str s
  | nilp => intro _; exact .nilp
  | nils => intro _; exact .nils
  | nilm => intro _; exact .nilm
  | nilf => intro _; exact .nilf
  | nili => intro _; exact .nili
  | agg hn' vs h1 h2 ih => intro hn; simp only [baseV] at hn; exact .agg hn' vs h1 (fun j y hy => ih j y hy (baseVs_get hn hy))
  | tup hn' vs h1 h2 ih => intro hn; simp only [baseV] at hn; exact .tup hn' vs h1 (fun j y hy => ih j y hy (baseVs_get hn hy))
  | _ => intro hn; simp [baseV] at hn
theorem CRs.free {F : Area} {ρ : Rho} {w : World} {vs : List Value} {l : List AV} (h : CRs F ρ w vs l) (ρ' : Rho) (hn : noRefs l = true) : CRs F ρ' w vs l :=
  ⟨h.1, fun j v y hv hy => (h.2 j v y hv hy).free ρ' (noRefs_get hn hy)⟩

end Go.Proofs.YtaooangghieljaaGreatDoor.AM

/- The abstract machine: what may be appended behind a slice is forgotten. -/
namespace Go.Proofs.YtaooangghieljaaGreatDoor.AM
set_option linter.unusedVariables false
set_option linter.unusedSimpArgs false
set_option linter.unusedSectionVars false

mutual
/-- no tokens. -/
def forget : AV → AV
  | .fp l o => .fp (forgets l) o
  | .lst sz l tl => .lst sz (forgets l) (match tl with | .own _ => .open_ | t => t)
  | .clo f l m => .clo f (forgets l) (forgets m)
  | .agg l => .agg (forgets l)
  | .tup l => .tup (forgets l)
  | v => v
def forgets : List AV → List AV
  | [] => []
  | x :: xs => forget x :: forgets xs
end
theorem forgets_map : ∀ l : List AV, forgets l = l.map forget
  | [] => rfl
  | x :: xs => by rw [forgets, forgets_map xs]; rfl
theorem forgets_get {l : List AV} {j : Nat} {y : AV} (h : (forgets l)[j]? = some y) : ∃ z, l[j]? = some z ∧ y = forget z := by
  rw [forgets_map, List.getElem?_map] at h
  cases hz : l[j]? with
  | none => rw [hz] at h; cases h
  | some z => rw [hz] at h; exact ⟨z, rfl, (Option.some.inj h).symm⟩
theorem forgets_length (l : List AV) : (forgets l).length = l.length := by rw [forgets_map]; simp
theorem forget_cells (x : AV) : (forget x).cells = forgets x.cells := by
  cases x <;> simp [forget, AV.cells, forgets]

theorem CR.forget {F : Area} {ρ : Rho} {w : World} {v : Value} {y : AV} (h : CR F ρ w v y) : CR F ρ w v (forget y) := by
  induction h with
  | bool b => exact .bool b
  | int k n => exact .int k n
  | str s => exact .str s
  | nilp => exact .nilp
  | ptr h => exact .ptr h
  | eptr h ho => exact .eptr h ho
  | fp hb hF vs h1 h2 ho ih =>
    simp only [AM.forget]
    refine .fp hb (by rw [forgets_length]; exact hF) vs (fun j y hy => ?_) (fun j y hy => ?_) ho
    · obtain ⟨z, hz, rfl⟩ := forgets_get hy; exact h1 j z hz
    · obtain ⟨z, hz, rfl⟩ := forgets_get hy; exact ih j z hz
  | nils => exact .nils
  | @lst0 base sz tl ht => simp only [AM.forget, AM.forgets]; exact .lst0 (fun t => by cases tl with
    | own t => exact absurd rfl (ht t)
    | clip => nofun
    | open_ => nofun)
  | sl h hb hr hl hc ho => exact .sl h hb hr hl hc ho
  | vsl h hl hc ho => exact .vsl h hl hc ho
  | @lst B o n c sz cs e fz l tl hb hn hsz hF vs h1 h2 hl hr hc ht ih =>
    simp only [AM.forget]
    refine .lst hb (by rw [forgets_length]; exact hn) (fun x hx => ?_) (by rw [forgets_length]; exact hF) vs (fun i x j y hx hy => ?_) (fun i x j y hx hy => ?_) (by rw [forgets_length]; exact hl) hr (fun hcl => ?_) (fun t ht' hlt => ?_)
    · rw [forgets_map] at hx
      obtain ⟨z, hz, rfl⟩ := List.mem_map.1 hx
      rw [forget_cells, forgets_length]; exact hsz z hz
    · obtain ⟨z, hz, rfl⟩ := forgets_get hx
      rw [forget_cells] at hy
      obtain ⟨u, hu, rfl⟩ := forgets_get hy
      exact h1 i z j u hz hu
    · obtain ⟨z, hz, rfl⟩ := forgets_get hx
      rw [forget_cells] at hy
      obtain ⟨u, hu, rfl⟩ := forgets_get hy
      exact ih i z j u hz hu
    · rw [forgets_length]
      cases tl with
      | clip => exact hc rfl
      | open_ => cases hcl
      | own t => cases hcl
    · cases tl <;> cases ht'
  | nilm => exact .nilm
  | map h => exact .map h
  | nilf => exact .nilf
  | clo hf hc vs us h1 h2 h3 h4 ih1 ih2 =>
    simp only [AM.forget]
    refine .clo (by rw [forgets_length]; exact hf) (by rw [forgets_length]; exact hc) vs us (fun j y hy => ?_) (fun j y hy => ?_) (fun j y hy => ?_) (fun j y hy => ?_)
    · obtain ⟨z, hz, rfl⟩ := forgets_get hy; exact h1 j z hz
    · obtain ⟨z, hz, rfl⟩ := forgets_get hy; exact ih1 j z hz
    · obtain ⟨z, hz, rfl⟩ := forgets_get hy; exact h3 j z hz
    · obtain ⟨z, hz, rfl⟩ := forgets_get hy; exact ih2 j z hz
  | nili => exact .nili
  | agg hn vs h1 h2 ih =>
    simp only [AM.forget]
    refine .agg (by rw [forgets_length]; exact hn) vs (fun j y hy => ?_) (fun j y hy => ?_)
    · obtain ⟨z, hz, rfl⟩ := forgets_get hy; exact h1 j z hz
    · obtain ⟨z, hz, rfl⟩ := forgets_get hy; exact ih j z hz
  | tup hn vs h1 h2 ih =>
    simp only [AM.forget]
    refine .tup (by rw [forgets_length]; exact hn) vs (fun j y hy => ?_) (fun j y hy => ?_)
    · obtain ⟨z, hz, rfl⟩ := forgets_get hy; exact h1 j z hz
    · obtain ⟨z, hz, rfl⟩ := forgets_get hy; exact ih j z hz
theorem CRs.forgets {F : Area} {ρ : Rho} {w : World} {vs : List Value} {l : List AV} (h : CRs F ρ w vs l) : CRs F ρ w vs (forgets l) :=
  ⟨by rw [forgets_length]; exact h.1, fun j v y hv hy => by obtain ⟨z, hz, rfl⟩ := forgets_get hy; exact (h.2 j v z hv hz).forget⟩
end Go.Proofs.YtaooangghieljaaGreatDoor.AM
