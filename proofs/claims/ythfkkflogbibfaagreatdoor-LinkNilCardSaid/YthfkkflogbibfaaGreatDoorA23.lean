/- The abstract machine: a range over a function that hands out a slice from its end. -/
import Derived.Test.YthfkkflogbibfaaGreatDoorA22
import Derived.RangeFuncWrites
namespace Go.Proofs.YthfkkflogbibfaaGreatDoor.AM
set_option linter.unusedSectionVars false
set_option linter.unusedVariables false
set_option linter.unusedSimpArgs false

/-- a function value's code hands to yield the last element, then the one before it, and so on; it looks at the slice anew each time. -/
def BackOK (P : Program) (gf : FuncId) : Prop :=
  (∀ args w, (callFunc gf args).run P w = .ok (.enter gf args) w) ∧
  ∀ (l bx n : Nat) (J : Nat → World → Prop) (w : World), n ≤ 1000000 →
    (∀ k W, J k W → (k < n ∨ k = 0) → ∃ a c, W.cell? ⟨bx, 0, none⟩ = some (.slice a n c)) →
    (∀ k W, J k W → k < n → ∃ B o c v, W.cell? ⟨bx, 0, none⟩ = some (.slice (some ⟨B, o, none⟩) n c) ∧ W.cell? ⟨B, o + (n - 1 - k), none⟩ = some v ∧
      YieldAt Fence.wide 0 P l #[.int .i64 ((n - 1 - k : Nat) : Int), v] W fun e W' => e = .returned (.bool true) ∧ J (k + 1) W') →
    J 0 w → CallsIn Fence.wide 0 P gf #[.func (.yield l) #[] #[], .pointer (some ⟨bx, 0, none⟩)] w fun e W' => (∃ v, e = .returned v) ∧ J n W'
def BOK (E : Env) : Prop := ∀ gf, E.B gf = true → BackOK E.P gf

theorem rounds_spec {ga gb : Fr → H → R (X × Fr × H)} {τ : Fr} {ps : List Nat} {b : Nat} {s : AV} : ∀ {l : List (Nat × AV)} {h h' : H}, rounds ga gb τ ps b s l h = .ok h' →
    ∃ hk : Nat → H, hk 0 = h ∧ hk l.length = h' ∧ ∀ (k : Nat) (i : Nat) (x : AV), l[k]? = some (i, x) → (hk k)[b]? = some (.var [s]) ∧ ∃ τ1 h1 τ2, ga (setPs τ ps [.int .i64 i, x]) (hk k) = .ok (.normal, τ1, h1) ∧ gb τ1 h1 = .ok (.normal, τ2, hk (k + 1))
  | [], h, h', hr => by cases hr; exact ⟨fun _ => h, rfl, rfl, fun k i x hx => by simp at hx⟩
  | (i, x) :: rest, h, h', hr => by
    simp only [rounds] at hr
    split at hr
    · rename_i hb
      split at hr
      · rename_i τ1 h1 hga
        split at hr
        · rename_i τ2 h2 hgb
          obtain ⟨hk, k1, k2, k3⟩ := rounds_spec hr
          refine ⟨fun k => match k with | 0 => h | k + 1 => hk k, rfl, k2, fun k i' x' hx => ?_⟩
          cases k with
          | zero =>
            simp at hx
            obtain ⟨rfl, rfl⟩ := hx
            exact ⟨sameBlk_eq hb, τ1, h1, τ2, hga, by simp only [k1]; exact hgb⟩
          | succ k =>
            obtain ⟨g1, g2⟩ := k3 k i' x' (by simpa using hx)
            exact ⟨g1, g2⟩
        · cases hr
        · cases hr
      · cases hr
      · cases hr
    · cases hr

theorem backL_length (l : List AV) : (backL l).length = l.length := by simp [backL]
theorem backL_get {l : List AV} {k : Nat} (hk : k < l.length) : ∃ x, l[l.length - 1 - k]? = some x ∧ (backL l)[k]? = some (l.length - 1 - k, x) := by
  have hi : l.length - 1 - k < l.length := by omega
  refine ⟨l[l.length - 1 - k], List.getElem?_eq_getElem hi, ?_⟩
  unfold backL
  have hz : ((List.range l.length).zip l).length = l.length := by simp
  rw [List.getElem?_reverse (by rw [hz]; exact hk), hz]
  rw [List.getElem?_zip_eq_some]
  exact ⟨by simp [hi], List.getElem?_eq_getElem hi⟩

/-! ## blocks that hold no cells and no map are no one's -/
def isRec (o : Obj) : Prop := (∀ cs e fz, o ≠ .cells cs e fz) ∧ ∀ es c, o ≠ .map es c

theorem Ext.putObj {O O' : Area} {ρ ρ' : Rho} {w w1 : World} (hx : Ext O ρ w O' ρ' w1) {D : Nat} {o' : Obj} (hD : w.heap.size ≤ D) : Ext O ρ w O' ρ' (w1.putObj D o') :=
  have hs : (w1.putObj D o').heap.size = w1.heap.size := by simp [World.putObj]
  have hk : ∀ B, B < w.heap.size → (w1.putObj D o').heap[B]? = w1.heap[B]? := fun B hB => by
    simp only [World.putObj]
    rw [Array.getElem?_setIfInBounds_ne (by omega)]
  ⟨hx.sub, hx.new, hx.newρ, hx.st, by rw [hs]; exact hx.size, fun B cs e fz hb => by
    obtain ⟨cs', k1, k2, k3⟩ := hx.keep B cs e fz hb
    exact ⟨cs', by rw [hk B (lt_of_get hb)]; exact k1, k2, k3⟩, fun B hB ho => by rw [hk B hB]; exact hx.keepo B hB ho⟩
theorem keeps_putObj {F : Area} {w : World} {D : Nat} {o o' : Obj} (hD : w.heap[D]? = some o) (ho : isRec o) : Keeps F w F (w.putObj D o') := by
  intro B cs e fz hb
  have hne : D ≠ B := fun h => by rw [h, hb] at hD; cases hD; exact ho.1 _ _ _ rfl
  refine ⟨cs, ?_, rfl, fun off _ hF => ⟨rfl, hF⟩⟩
  simp only [World.putObj]
  rw [Array.getElem?_setIfInBounds_ne hne]; exact hb
theorem HR.putObj {G : Nat → Option (List AV)} {A : Area} {ρ : Rho} {w : World} {g : View} (hr : HR G A ρ w g) {D : Nat} {o o' : Obj} (hD : w.heap[D]? = some o) (ho : isRec o) : HR G A ρ (w.putObj D o') g := by
  have hk := keeps_putObj (F := Forb A ρ g) (o' := o') hD ho
  have hs : (w.putObj D o').heap.size = w.heap.size := by simp [World.putObj]
  have hne : ∀ B x, w.heap[B]? = some x → ¬ isRec x → (w.putObj D o').heap[B]? = w.heap[B]? := fun B x hb hx => by
    have : D ≠ B := fun h => by rw [h, hb] at hD; cases hD; exact hx ho
    simp only [World.putObj]
    rw [Array.getElem?_setIfInBounds_ne this]
  refine ⟨hr.dom, fun b x hb hx => ?_, hr.hole, hr.sep, fun B off ha => by rw [hs]; exact hr.avo B off ha, fun i cs hi => (hr.glob i cs hi).mono (fun _ _ h => h) hk⟩
  obtain ⟨B, k, h1, h2, h3⟩ := hr.blk b x hb hx
  refine ⟨B, k, h1, by rw [hs]; exact h2, ?_⟩
  cases x with
  | var l => obtain ⟨_, cs, e, fz, h4, _⟩ := id h3; exact h3.mono (fun _ _ h => h) hk (hne B _ h4 (fun h => h.1 _ _ _ rfl))
  | arr sz l => obtain ⟨_, cs, e, fz, h4, _⟩ := id h3; exact h3.mono (fun _ _ h => h) hk (hne B _ h4 (fun h => h.1 _ _ _ rfl))
  | map es => obtain ⟨_, ents, clock, h4, _⟩ := id h3; exact h3.mono (fun _ _ h => h) hk (hne B _ h4 (fun h => h.2 _ _ rfl))
  | tail => obtain ⟨cs, e, fz, h4, _⟩ := id h3; exact h3.mono (fun _ _ h => h) hk (hne B _ h4 (fun h => h.1 _ _ _ rfl))
  | dead => trivial
  | hole => trivial
end Go.Proofs.YthfkkflogbibfaaGreatDoor.AM
