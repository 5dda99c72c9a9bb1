/- How readable data are typed Lean values: whole numbers, bools, texts, slices, structs, to any depth; with the bounds that the reach gives. -/
import Derived.Test.YtlnfaeegmcihfaaDoorHW
import Derived.ChangeArms
import Derived.ProofKit
import Derived.SizedLaws
import GoSem.ClaimJoined
set_option linter.unusedVariables false
set_option linter.unusedSectionVars false
namespace Go.Proofs.HR
open Go.RowKit Go.Proofs.YtlnfaeegmcihfaaDoorW.PrintWords Go.ChangeShapes Go.WideShapes Go.ChangeAt

def RdTo (P : Program) (t : TypeId) {α : Type} (k : Kd α) (F : α → Prop) : Prop :=
  ∀ {H : Type} (enc : TypeId × Value → H) (w : World) (base : Nat) (sp : Nat → Bool) (held : Bool) (fuel : Nat) (cs : List Value) (x : DataW H × List MemPlace),
    DataW.trod enc P w base sp held fuel t cs = some x → (∀ n ∈ x.1.weights P t, n ≤ reachBytes) → ∃ y, k.K w y cs ∧ F y

section
variable {P : Program}
theorem rd_int {t : TypeId} {q : IntKind} (hu : P.underlying t = some (.int q)) : RdTo P t (Kd.int q) (fun n => (Lit.int q n).wf = true) := by
  intro H enc w base sp held fuel cs x h _
  obtain ⟨n, rfl, rfl, hw⟩ := DataW.trod_int hu h
  exact ⟨n, rfl, hw⟩
theorem rd_bool {t : TypeId} (hu : P.underlying t = some .bool) : RdTo P t Kd.bool (fun _ => True) := by
  intro H enc w base sp held fuel cs x h _
  obtain ⟨n, rfl, rfl⟩ := DataW.trod_bool hu h
  exact ⟨n, rfl, trivial⟩
theorem rd_string {t : TypeId} (hu : P.underlying t = some .string) : RdTo P t Kd.string (fun s => s.size ≤ 140737488351232) := by
  intro H enc w base sp held fuel cs x h hw
  obtain ⟨s, rfl, rfl, _⟩ := DataW.trod_string hu h
  refine ⟨s, rfl, ?_⟩
  have := hw s.data.toList.length (by simp [DataW.weights])
  rw [Array.length_toList] at this
  exact this

theorem list_choose {α : Type} {Q : Nat → α → Prop} : ∀ n : Nat, (∀ i, i < n → ∃ y, Q i y) → ∃ xs : List α, xs.length = n ∧ ∀ i p, xs[i]? = some p → Q i p
  | 0, _ => ⟨[], rfl, fun i p h => by simp at h⟩
  | n + 1, h => by
    obtain ⟨xs, hl, hx⟩ := list_choose n (fun i hi => h i (by omega))
    obtain ⟨y, hy⟩ := h n (by omega)
    refine ⟨xs ++ [y], by simp [hl], fun i p hp => ?_⟩
    rcases Nat.lt_or_ge i xs.length with hi | hi
    · rw [List.getElem?_append_left hi] at hp; exact hx i p hp
    · have : i = xs.length := by
        have := (List.getElem?_eq_some_iff.1 hp).1
        simp at this; omega
      subst this
      simp at hp
      subst hp
      rw [hl]; exact hy

theorem cells_get {w : World} {base : Nat} {a : Addr} {n : Nat} {cs : List Value} (h : w.cells? base a n = some cs) : cs.length = n ∧ ∀ i u, cs[i]? = some u → w.cell? (a.add i) = some u := by
  obtain ⟨_, hl, hi⟩ := World.cells?_some h
  refine ⟨hl, fun i u hu => ?_⟩
  have := (List.getElem?_eq_some_iff.1 hu).1
  rw [hi i (by omega)]
  exact hu

theorem weights_elem {H : Type} {e : TypeId} {elems : List (DataW H)} {i : Nat} {d : DataW H} (h : elems[i]? = some d) : ∀ n ∈ d.weights P e, n ∈ DataW.weightsAll P e elems := by
  induction elems generalizing i with
  | nil => simp at h
  | cons x xs ih =>
    intro n hn
    unfold DataW.weightsAll
    cases i with
    | zero => simp at h; subst h; exact List.mem_append_left _ hn
    | succ i => simp at h; exact List.mem_append_right _ (ih h n hn)

theorem rd_slice {t e e' : TypeId} {α : Type} {k : Kd α} {F : α → Prop} {B : Nat} (hu : P.underlying t = some (.slice e)) (hc : P.cellsOf e = k.sz) (hb : P.bytesOf e = B) (hr : RdTo P e k F) :
    RdTo P t (Kd.slice e' k) (fun xs => xs.length * B ≤ 140737488351232 ∧ ∀ x ∈ xs, F x) := by
  intro H enc w base sp held fuel cs x h hw
  rcases DataW.trod_slice hu h with ⟨rfl, rfl⟩ | ⟨a, len, cap, elems, rest, n, rfl, rfl, rfl, hba, hlc, hcm, hel, hi, _, _⟩
  · exact ⟨[], ⟨none, 0, rfl, Nat.le_refl _, rfl, by simp, fun h => absurd h (by simp)⟩, by simp, fun x hx => by simp at hx⟩
  · have hwt : ∀ m ∈ DataW.weights P t (DataW.slice (elems.map (·.1)) (rest.map (·.1))), m ≤ reachBytes := hw
    unfold DataW.weights at hwt
    rw [hu] at hwt
    simp only [List.mem_cons, List.mem_append] at hwt
    have hlen : (elems.length + rest.length) * B ≤ reachBytes := by
      have := hwt _ (.inl rfl)
      simpa [hb] using this
    have hex : ∀ i, i < len → ∃ y, (∃ c, c.length = k.sz ∧ k.K w y c ∧ ∀ j u, c[j]? = some u → w.cell? (a.add (i * k.sz + j)) = some u) ∧ F y := by
      intro i hil
      have h1 := hi i hil
      rw [List.getElem?_eq_getElem (show i < elems.length by omega), hc] at h1
      obtain ⟨c, hcs, ht⟩ := Option.bind_eq_some_iff.1 h1
      obtain ⟨y, hk, hf⟩ := hr enc w base sp held n c _ ht (fun m hm => hwt m (.inr (.inl (weights_elem (i := i) (by rw [List.getElem?_map, List.getElem?_eq_getElem (show i < elems.length by omega)]; rfl) m hm))))
      obtain ⟨hl, hg⟩ := cells_get hcs
      refine ⟨y, ⟨c, hl, hk, fun j u hj => ?_⟩, hf⟩
      have := hg j u hj
      have ea : (a.add (i * k.sz)).add j = a.add (i * k.sz + j) := by
        unfold Addr.add
        by_cases h1 : i * k.sz = 0 <;> by_cases h2 : j = 0 <;> simp [h1, h2, Nat.add_assoc]
      rw [ea] at this
      exact this
    obtain ⟨xs, hxl, hx⟩ := list_choose len hex
    refine ⟨xs, ⟨some a, cap, by rw [hxl], by omega, rfl, by rw [hxl]; simp only [maxLen] at hcm; omega, fun _ => ⟨a, rfl, fun j p hp => (hx j p hp).1⟩⟩, ?_, fun y hy => ?_⟩
    · rw [hxl, ← hel]
      exact Nat.le_trans (Nat.mul_le_mul_right _ (by omega)) hlen
    · obtain ⟨i, hi', rfl⟩ := List.mem_iff_getElem.1 hy
      exact (hx i _ (List.getElem?_eq_getElem hi')).2

/-- Fields one behind the other. -/
def RdFs (P : Program) (fs : List Field) (off : Nat) {α : Type} (k : Kd α) (F : α → Prop) : Prop :=
  ∀ {H : Type} (enc : TypeId × Value → H) (w : World) (base : Nat) (sp : Nat → Bool) (held : Bool) (fuel : Nat) (cs : List Value) (xs : List (DataW H × List MemPlace)), cs.length = off + k.sz →
    xs.length = fs.length → (∀ (i : Nat) (f : Field), fs[i]? = some f → DataW.trod enc P w base sp held fuel f.type ((cs.drop f.offset).take (P.cellsOf f.type)) = xs[i]?) →
    (∀ n ∈ DataW.weightsEach P (fs.map (·.type)) (xs.map (·.1)), n ≤ reachBytes) → ∃ y, k.K w y (cs.drop off) ∧ F y
theorem rd_last {f : Field} {off : Nat} {α : Type} {k : Kd α} {F : α → Prop} (ho : f.offset = off) (hc : P.cellsOf f.type = k.sz) (h : RdTo P f.type k F) : RdFs P [f] off k F := by
  intro H enc w base sp held fuel cs xs hl hxl hx hw
  obtain ⟨x, rfl⟩ : ∃ x, xs = [x] := by
    match xs, hxl with
    | [x], _ => exact ⟨x, rfl⟩
  have h0 := hx 0 f rfl
  rw [ho, hc, List.take_of_length_le (by rw [List.length_drop]; omega)] at h0
  exact h enc w base sp held fuel _ x h0 (fun n hn => hw n (by simp [DataW.weightsEach, hn]))
theorem rd_next {f : Field} {fs : List Field} {off : Nat} {α β : Type} {k : Kd α} {l : Kd β} {F : α → Prop} {G : β → Prop} (ho : f.offset = off) (hc : P.cellsOf f.type = k.sz) (h : RdTo P f.type k F)
    (hr : RdFs P fs (off + k.sz) l G) : RdFs P (f :: fs) off (Kd.pair k l) (fun p => F p.1 ∧ G p.2) := by
  intro H enc w base sp held fuel cs xs hl hxl hx hw
  obtain ⟨x, ys, rfl⟩ : ∃ x ys, xs = x :: ys := by
    match xs, hxl with
    | x :: ys, _ => exact ⟨x, ys, rfl⟩
  have hsz : (Kd.pair k l).sz = k.sz + l.sz := rfl
  have h0 := hx 0 f rfl
  rw [ho, hc] at h0
  obtain ⟨y, hk, hf⟩ := h enc w base sp held fuel _ x h0 (fun n hn => hw n (by simp [DataW.weightsEach, hn]))
  obtain ⟨z, hkz, hg⟩ := hr enc w base sp held fuel cs ys (by rw [hl, hsz]; omega) (by simpa using hxl) (fun i f' hf' => by have := hx (i + 1) f' (by simpa using hf'); simpa using this) (fun n hn => hw n (by
    simp only [List.map_cons, DataW.weightsEach, List.mem_append]; exact .inr hn))
  refine ⟨(y, z), ⟨_, _, ?_, hk, hkz⟩, hf, hg⟩
  have := List.take_append_drop k.sz (cs.drop off)
  rw [List.drop_drop] at this
  exact this.symm
theorem rd_struct {t : TypeId} {fs : Array Field} {α β : Type} {k : Kd α} {F : α → Prop} (f : β → α) (g : α → β) (hfg : ∀ a, f (g a) = a) (hu : P.underlying t = some (.struct fs)) (hc : P.cellsOf t = k.sz) (h : RdFs P fs.toList 0 k F) :
    RdTo P t (Kd.iso k f) (fun y => F (f y)) := by
  intro H enc w base sp held fuel cs x hx hw
  obtain ⟨xs, n, rfl, rfl, hl, hxl, hi⟩ := DataW.trod_struct hu hx
  obtain ⟨y, hk, hf⟩ := h enc w base sp held n cs xs (by omega) (by simpa using hxl) (fun i f' hf' => hi i f' (by simpa using hf')) (by
    intro m hm
    refine hw m ?_
    simp only [DataW.weights]
    rw [hu]
    exact hm)
  refine ⟨g y, ?_, ?_⟩
  · show k.K w (f (g y)) cs
    rw [hfg]; simpa using hk
  · show F (f (g y))
    rw [hfg]; exact hf

theorem reach_of {H : Type} {ts : List TypeId} {ds : List (DataW H)} (h : (DataW.weightsEach P ts ds).all (· ≤ reachBytes) = true) {j : Nat} {t : TypeId} {d : DataW H} (ht : ts[j]? = some t) (hd : ds[j]? = some d) : ∀ n ∈ d.weights P t, n ≤ reachBytes := by
  intro n hn
  have := List.all_eq_true.1 h _ (DataW.weights_mem_each ht hd n hn)
  simpa using this

theorem open_row {H : Type} {enc : TypeId × Value → H} {W : World} {b base : Nat} {sp : Nat → Bool} {held : Bool} {r : Reach} {t e e' : TypeId} {α : Type} {k : Kd α} {F : List α → Prop} {v : Value} {d : DataW H} {ps : List MemPlace}
    (hu : P.underlying t = some (.slice e)) (rd : RdTo P t (Kd.slice e' k) F) (hv : Value.okWide P W r b t v) (h : DataW.Trod enc P W base sp held t v d ps) (hw : ∀ n ∈ d.weights P t, n ≤ reachBytes) :
    ∃ A c xs, v = .slice A xs.length c ∧ xs.length ≤ c ∧ k.C W A xs.length xs ∧ F xs := by
  obtain ⟨a, len, cap, rfl⟩ := okWide_slice hu hv
  obtain ⟨fuel, hf⟩ := h
  obtain ⟨xs, ⟨A, c, he, hl, hC⟩, hF⟩ := rd enc W base sp held fuel _ _ hf hw
  have he' : [Value.slice a len cap] = [Value.slice A xs.length c] := he
  simp only [List.cons.injEq, Value.slice.injEq, and_true] at he'
  obtain ⟨rfl, rfl, rfl⟩ := he'
  exact ⟨_, _, xs, rfl, hl, hC, hF⟩
theorem open_agg {H : Type} {enc : TypeId × Value → H} {W : World} {b base : Nat} {sp : Nat → Bool} {held : Bool} {r : Reach} {t : TypeId} {fs : Array Field} {α : Type} {k : Kd α} {F : α → Prop} {v : Value} {d : DataW H} {ps : List MemPlace}
    (hu : P.underlying t = some (.struct fs)) (rd : RdTo P t k F) (hv : Value.okWide P W r b t v) (h : DataW.Trod enc P W base sp held t v d ps) (hw : ∀ n ∈ d.weights P t, n ≤ reachBytes) :
    ∃ cs y, v = .agg cs ∧ k.K W y cs.toList ∧ F y := by
  unfold Value.okWide at hv
  rw [hu] at hv
  obtain ⟨cs, rfl, _, _⟩ := hv
  obtain ⟨fuel, hf⟩ := h
  obtain ⟨y, hk, hF⟩ := rd enc W base sp held fuel _ _ hf hw
  exact ⟨cs, y, rfl, hk, hF⟩
end
end Go.Proofs.HR
