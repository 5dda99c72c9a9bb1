/- The abstract machine: how its trees stand for memory cells. -/
import Derived.Test.YthfkkflogbibfaaGreatDoorA1
import Derived.Laws.Cells
import Derived.Laws.World
namespace Go.Proofs.YthfkkflogbibfaaGreatDoor.AM
set_option linter.unusedSimpArgs false
set_option linter.unusedSectionVars false
set_option linter.unusedVariables false

abbrev Rho := Nat → Option (Nat × Nat)
abbrev Area := Nat → Nat → Prop

inductive CR (F : Area) (ρ : Rho) (w : World) : Value → AV → Prop
  | bool (b : Bool) : CR F ρ w (.bool b) (.bool b)
  | int (k : IntKind) (n : Int) : CR F ρ w (.int k n) (.int k n)
  | str (s : ByteArray) : CR F ρ w (.string s) (.str s)
  | nilp : CR F ρ w (.pointer none) .nilp
  | ptr {b B off : Nat} (h : ρ b = some (B, 0)) : CR F ρ w (.pointer (some ⟨B, off, none⟩)) (.ptr b off)
  | eptr {b B i sz off o : Nat} (h : ρ b = some (B, 0)) (ho : o = i * sz + off) : CR F ρ w (.pointer (some ⟨B, o, none⟩)) (.eptr b i sz off)
  | fp {B base off o : Nat} {cs : Array Value} {e : TypeId} {fz : Nat × Nat} {l : List AV} (hb : w.heap[B]? = some (.cells cs e fz))
      (hF : ∀ j, j < l.length → ¬ F B (base + j)) (vs : Nat → Value) (h1 : ∀ j y, l[j]? = some y → cs[base + j]? = some (vs j))
      (h2 : ∀ j y, l[j]? = some y → CR F ρ w (vs j) y) (ho : o = base + off) : CR F ρ w (.pointer (some ⟨B, o, none⟩)) (.fp l off)
  | nils : CR F ρ w (.slice none 0 0) .nils
  | lst0 {base : Option Addr} {sz : Nat} {tl : Tl} (ht : ∀ t, tl ≠ .own t) : CR F ρ w (.slice base 0 0) (.lst sz [] tl)
  | sl {b B o off len sz c : Nat} {clip : Bool} {cs : Array Value} {e : TypeId} {fz : Nat × Nat} (h : ρ b = some (B, 0)) (hb : w.heap[B]? = some (.cells cs e fz))
      (hr : (off + c) * sz ≤ cs.size) (hl : len ≤ c) (hc : clip = true → c = len) (ho : c = 0 ∨ o = off * sz) : CR F ρ w (.slice (some ⟨B, o, none⟩) len c) (.sl b off len sz clip)
  | vsl {b B o off len c : Nat} {clip : Bool} (h : ρ b = some (B, 0)) (hl : len ≤ c) (hc : clip = true → c = len) (ho : c = 0 ∨ o = off) : CR F ρ w (.slice (some ⟨B, o, none⟩) len c) (.vsl b off len clip)
  | lst {B o n c sz : Nat} {cs : Array Value} {e : TypeId} {fz : Nat × Nat} {l : List AV} {tl : Tl} (hb : w.heap[B]? = some (.cells cs e fz)) (hn : n = l.length)
      (hsz : ∀ x, x ∈ l → x.cells.length = sz) (hF : ∀ j, j < l.length * sz → ¬ F B (o + j)) (vs : Nat → Nat → Value)
      (h1 : ∀ i x j y, l[i]? = some x → x.cells[j]? = some y → cs[o + (i * sz + j)]? = some (vs i j))
      (h2 : ∀ i x j y, l[i]? = some x → x.cells[j]? = some y → CR F ρ w (vs i j) y)
      (hl : l.length ≤ c) (hr : o + c * sz ≤ cs.size) (hc : tl = .clip → c = l.length) (ht : ∀ t, tl = .own t → l.length < c → ρ t = some (B, o + l.length * sz)) :
      CR F ρ w (.slice (some ⟨B, o, none⟩) n c) (.lst sz l tl)
  | nilm : CR F ρ w (.map none) .nilm
  | map {b B : Nat} (h : ρ b = some (B, 0)) : CR F ρ w (.map (some B)) (.map b)
  | nilf : CR F ρ w .nilFunc .nilf
  | clo {f : Nat} {first caps : Array Value} {fa ca : List AV} (hf : first.size = fa.length) (hc : caps.size = ca.length)
      (vs us : Nat → Value) (h1 : ∀ j y, fa[j]? = some y → first[j]? = some (vs j)) (h2 : ∀ j y, fa[j]? = some y → CR F ρ w (vs j) y)
      (h3 : ∀ j y, ca[j]? = some y → caps[j]? = some (us j)) (h4 : ∀ j y, ca[j]? = some y → CR F ρ w (us j) y) : CR F ρ w (.func (.func f) first caps) (.clo f fa ca)
  | nili : CR F ρ w .nilIface .nili
  | agg {cs : Array Value} {l : List AV} (hn : cs.size = l.length) (vs : Nat → Value) (h1 : ∀ j y, l[j]? = some y → cs[j]? = some (vs j))
      (h2 : ∀ j y, l[j]? = some y → CR F ρ w (vs j) y) : CR F ρ w (.agg cs) (.agg l)
  | tup {cs : Array Value} {l : List AV} (hn : cs.size = l.length) (vs : Nat → Value) (h1 : ∀ j y, l[j]? = some y → cs[j]? = some (vs j))
      (h2 : ∀ j y, l[j]? = some y → CR F ρ w (vs j) y) : CR F ρ w (.tuple cs) (.tup l)

/-- how memory may become other memory, for whoever holds nothing of F. -/
def Keeps (F : Area) (w : World) (F' : Area) (w' : World) : Prop :=
  ∀ B cs e fz, w.heap[B]? = some (.cells cs e fz) → ∃ cs', w'.heap[B]? = some (.cells cs' e fz) ∧ cs'.size = cs.size ∧ ∀ off, off < cs.size → ¬ F B off → cs'[off]? = cs[off]? ∧ ¬ F' B off

theorem lt_of_get {α : Type} {a : Array α} {i : Nat} {x : α} (h : a[i]? = some x) : i < a.size := by
  rcases Nat.lt_or_ge i a.size with h' | h'
  · exact h'
  · simp [Array.getElem?_eq_none h'] at h

theorem lt_of_getl {α : Type} {a : List α} {i : Nat} {x : α} (h : a[i]? = some x) : i < a.length := by
  rcases Nat.lt_or_ge i a.length with h' | h'
  · exact h'
  · simp [List.getElem?_eq_none h'] at h

theorem CR.mono {F F' : Area} {ρ ρ' : Rho} {w w' : World} (hρ : ∀ b p, ρ b = some p → ρ' b = some p) (hw : Keeps F w F' w') {v : Value} {y : AV} (h : CR F ρ w v y) : CR F' ρ' w' v y := by
  induction h with
  | bool b => exact .bool b
  | int k n => exact .int k n
  | str s => exact .str s
  | nilp => exact .nilp
  | ptr h => exact .ptr (hρ _ _ h)
  | eptr h ho => exact .eptr (hρ _ _ h) ho
  | @fp B base off o cs e fz l hb hF vs h1 h2 ho ih =>
    obtain ⟨cs', hb', hs', hk⟩ := hw B cs e fz hb
    have key : ∀ j, j < l.length → base + j < cs.size := fun j hj => lt_of_get (h1 j _ (List.getElem?_eq_getElem hj))
    refine .fp hb' (fun j hj => (hk _ (key j hj) (hF j hj)).2) vs (fun j y hy => ?_) (fun j y hy => ih j y hy) ho
    have hj := lt_of_getl hy
    rw [(hk _ (key j hj) (hF j hj)).1]; exact h1 j y hy
  | nils => exact .nils
  | lst0 ht => exact .lst0 ht
  | sl h hb hr hl hc ho => obtain ⟨cs', hb', hs', _⟩ := hw _ _ _ _ hb; exact .sl (hρ _ _ h) hb' (by omega) hl hc ho
  | vsl h hl hc ho => exact .vsl (hρ _ _ h) hl hc ho
  | @lst B o n c sz cs e fz l tl hb hn hsz hF vs h1 h2 hl hr hc ht ih =>
    obtain ⟨cs', hb', hs', hk⟩ := hw B cs e fz hb
    have key : ∀ j, j < l.length * sz → o + j < cs.size := fun j hj => by have := Nat.mul_le_mul_right sz hl; omega
    refine .lst hb' hn hsz (fun j hj => (hk _ (key j hj) (hF j hj)).2) vs (fun i x j y hx hy => ?_) (fun i x j y hx hy => ih i x j y hx hy) hl (by omega) hc (fun t h1 h2 => hρ _ _ (ht t h1 h2))
    have hi := lt_of_getl hx
    have hj := lt_of_getl hy
    rw [hsz x (List.mem_of_getElem? hx)] at hj
    have hlt : i * sz + j < l.length * sz := by
      have : (i + 1) * sz ≤ l.length * sz := Nat.mul_le_mul_right sz hi
      rw [Nat.add_mul] at this; omega
    rw [(hk _ (key _ hlt) (hF _ hlt)).1]; exact h1 i x j y hx hy
  | nilm => exact .nilm
  | map h => exact .map (hρ _ _ h)
  | nilf => exact .nilf
  | clo hf hc vs us h1 h2 h3 h4 ih1 ih2 => exact .clo hf hc vs us h1 ih1 h3 ih2
  | nili => exact .nili
  | agg hn vs h1 h2 ih => exact .agg hn vs h1 ih
  | tup hn vs h1 h2 ih => exact .tup hn vs h1 ih

/-- rows of values. -/
def CRs (F : Area) (ρ : Rho) (w : World) (vs : List Value) (l : List AV) : Prop :=
  vs.length = l.length ∧ ∀ (j : Nat) (v : Value) (y : AV), vs[j]? = some v → l[j]? = some y → CR F ρ w v y

theorem CRs.nil {F : Area} {ρ : Rho} {w : World} : CRs F ρ w [] [] := ⟨rfl, fun j v y h => by simp at h⟩
theorem CRs.cons {F : Area} {ρ : Rho} {w : World} {v : Value} {vs : List Value} {y : AV} {l : List AV} (h : CR F ρ w v y) (hs : CRs F ρ w vs l) : CRs F ρ w (v :: vs) (y :: l) := by
  refine ⟨by simp [hs.1], fun j u z hu hz => ?_⟩
  cases j with
  | zero => simp at hu hz; subst hu; subst hz; exact h
  | succ j => simp at hu hz; exact hs.2 j u z hu hz
theorem CRs.head {F : Area} {ρ : Rho} {w : World} {v : Value} {vs : List Value} {y : AV} {l : List AV} (h : CRs F ρ w (v :: vs) (y :: l)) : CR F ρ w v y := h.2 0 v y rfl rfl
theorem CRs.tail {F : Area} {ρ : Rho} {w : World} {v : Value} {vs : List Value} {y : AV} {l : List AV} (h : CRs F ρ w (v :: vs) (y :: l)) : CRs F ρ w vs l :=
  ⟨by simpa using h.1, fun j u z hu hz => h.2 (j + 1) u z (by simpa using hu) (by simpa using hz)⟩
theorem CRs.append {F : Area} {ρ : Rho} {w : World} {vs us : List Value} {l m : List AV} (h : CRs F ρ w vs l) (h' : CRs F ρ w us m) : CRs F ρ w (vs ++ us) (l ++ m) := by
  induction l generalizing vs with
  | nil => obtain rfl : vs = [] := by simpa using h.1
           exact h'
  | cons y l ih =>
    cases vs with
    | nil => have := h.1; simp at this
    | cons v vs => exact .cons h.head (ih h.tail)
theorem CRs.mono {F F' : Area} {ρ ρ' : Rho} {w w' : World} (hρ : ∀ b p, ρ b = some p → ρ' b = some p) (hw : Keeps F w F' w') {vs : List Value} {l : List AV} (h : CRs F ρ w vs l) : CRs F' ρ' w' vs l :=
  ⟨h.1, fun j v y hv hy => (h.2 j v y hv hy).mono hρ hw⟩
theorem CRs.get {F : Area} {ρ : Rho} {w : World} {vs : List Value} {l : List AV} (h : CRs F ρ w vs l) {j : Nat} {y : AV} (hy : l[j]? = some y) : ∃ v, vs[j]? = some v ∧ CR F ρ w v y := by
  have hj := lt_of_getl hy
  have : j < vs.length := by rw [h.1]; exact hj
  exact ⟨vs[j], List.getElem?_eq_getElem this, h.2 j _ y (List.getElem?_eq_getElem this) hy⟩
theorem CRs.drop {F : Area} {ρ : Rho} {w : World} {vs : List Value} {l : List AV} (h : CRs F ρ w vs l) (n : Nat) : CRs F ρ w (vs.drop n) (l.drop n) :=
  ⟨by simp [h.1], fun j v y hv hy => by simp only [List.getElem?_drop] at hv hy; exact h.2 _ v y hv hy⟩
theorem CRs.take {F : Area} {ρ : Rho} {w : World} {vs : List Value} {l : List AV} (h : CRs F ρ w vs l) (n : Nat) : CRs F ρ w (vs.take n) (l.take n) := by
  refine ⟨by simp [h.1], fun j v y hv hy => ?_⟩
  rw [List.getElem?_take] at hv hy
  split at hv
  · rename_i hlt; rw [if_pos hlt] at hy; exact h.2 _ v y hv hy
  · cases hv
theorem CRs.set {F : Area} {ρ : Rho} {w : World} {vs : List Value} {l : List AV} (h : CRs F ρ w vs l) {v : Value} {y : AV} (hv : CR F ρ w v y) (n : Nat) : CRs F ρ w (vs.set n v) (l.set n y) := by
  refine ⟨by simp [h.1], fun j u z hu hz => ?_⟩
  rw [List.getElem?_set] at hu hz
  by_cases hn : n = j
  · subst hn
    by_cases hlt : n < l.length
    · have hlt' : n < vs.length := by rw [h.1]; exact hlt
      simp [hlt'] at hu; simp [hlt] at hz
      subst hu; subst hz; exact hv
    · simp [hlt] at hz
  · simp [hn] at hu hz; exact h.2 j u z hu hz
theorem CR.agg_of {F : Area} {ρ : Rho} {w : World} {cs : Array Value} {l : List AV} (h : CRs F ρ w cs.toList l) : CR F ρ w (.agg cs) (.agg l) := by
  have hget : ∀ j y, l[j]? = some y → cs[j]? = some (cs.getD j Go.undef) := fun j y hy => by
    obtain ⟨v, hv, _⟩ := h.get hy
    rw [Array.getElem?_toList] at hv
    simp [Array.getD_eq_getD_getElem?, hv]
  refine .agg (by simpa using h.1) (fun j => cs.getD j Go.undef) hget (fun j y hy => ?_)
  have := hget j y hy
  exact h.2 j _ y (by rw [Array.getElem?_toList]; exact this) hy
theorem CR.agg_inv {F : Area} {ρ : Rho} {w : World} {v : Value} {l : List AV} (h : CR F ρ w v (.agg l)) : ∃ cs, v = .agg cs ∧ CRs F ρ w cs.toList l := by
  cases h with
  | agg hn vs h1 h2 =>
    refine ⟨_, rfl, by simpa using hn, fun j v y hv hy => ?_⟩
    rw [Array.getElem?_toList, h1 j y hy] at hv
    cases hv; exact h2 j y hy
theorem CR.tup_of {F : Area} {ρ : Rho} {w : World} {cs : Array Value} {l : List AV} (h : CRs F ρ w cs.toList l) : CR F ρ w (.tuple cs) (.tup l) := by
  have hget : ∀ j y, l[j]? = some y → cs[j]? = some (cs.getD j Go.undef) := fun j y hy => by
    obtain ⟨v, hv, _⟩ := h.get hy
    rw [Array.getElem?_toList] at hv
    simp [Array.getD_eq_getD_getElem?, hv]
  refine .tup (by simpa using h.1) (fun j => cs.getD j Go.undef) hget (fun j y hy => ?_)
  have := hget j y hy
  exact h.2 j _ y (by rw [Array.getElem?_toList]; exact this) hy
theorem CR.tup_inv {F : Area} {ρ : Rho} {w : World} {v : Value} {l : List AV} (h : CR F ρ w v (.tup l)) : ∃ cs, v = .tuple cs ∧ CRs F ρ w cs.toList l := by
  cases h with
  | tup hn vs h1 h2 =>
    refine ⟨_, rfl, by simpa using hn, fun j v y hv hy => ?_⟩
    rw [Array.getElem?_toList, h1 j y hy] at hv
    cases hv; exact h2 j y hy
/-- the cells of a value. -/
theorem CR.cells {F : Area} {ρ : Rho} {w : World} {v : Value} {y : AV} (h : CR F ρ w v y) : CRs F ρ w v.cells.toList y.cells := by
  cases h with
  | agg hn vs h1 h2 =>
    refine ⟨by simpa [Value.cells, AV.cells] using hn, fun j v y hv hy => ?_⟩
    simp only [Value.cells, AV.cells] at hv hy
    rw [Array.getElem?_toList, h1 j y hy] at hv
    cases hv; exact h2 j y hy
  | _ => exact .cons (by constructor <;> assumption) .nil

/-! ## elements in a row -/

def flat (l : List AV) : List AV := l.flatMap AV.cells
theorem flat_length {l : List AV} {sz : Nat} (h : ∀ x, x ∈ l → x.cells.length = sz) : (flat l).length = l.length * sz := by
  induction l with
  | nil => simp [flat]
  | cons x l ih =>
    have := ih (fun y hy => h y (List.mem_cons_of_mem _ hy))
    simp only [flat, List.flatMap_cons, List.length_append, List.length_cons] at this ⊢
    rw [this, h x (List.mem_cons_self ..), Nat.add_mul]; omega
theorem flat_append (l m : List AV) : flat (l ++ m) = flat l ++ flat m := by simp [flat]
theorem flat_drop {l : List AV} {sz : Nat} (h : ∀ x, x ∈ l → x.cells.length = sz) (n : Nat) : (flat l).drop (n * sz) = flat (l.drop n) := by
  induction n generalizing l with
  | zero => simp
  | succ n ih =>
    cases l with
    | nil => simp [flat]
    | cons x l =>
      have hx := h x (List.mem_cons_self ..)
      have := ih (l := l) (fun y hy => h y (List.mem_cons_of_mem _ hy))
      simp only [List.drop_succ_cons]
      rw [← this, Nat.add_mul, Nat.one_mul]
      show (x.cells ++ flat l).drop (n * sz + sz) = _
      rw [List.drop_append, List.drop_eq_nil_of_le (by omega), hx]
      simp
theorem flat_take {l : List AV} {sz : Nat} (h : ∀ x, x ∈ l → x.cells.length = sz) (n : Nat) : (flat l).take (n * sz) = flat (l.take n) := by
  induction n generalizing l with
  | zero => simp [flat]
  | succ n ih =>
    cases l with
    | nil => simp [flat]
    | cons x l =>
      have hx := h x (List.mem_cons_self ..)
      have := ih (l := l) (fun y hy => h y (List.mem_cons_of_mem _ hy))
      simp only [List.take_succ_cons]
      show (x.cells ++ flat l).take ((n + 1) * sz) = x.cells ++ flat (l.take n)
      rw [← this, Nat.add_mul, Nat.one_mul, List.take_append, List.take_of_length_le (by omega), hx]
      simp
theorem flat_get {l : List AV} {sz : Nat} (h : ∀ x, x ∈ l → x.cells.length = sz) {i j : Nat} {x : AV} (hx : l[i]? = some x) (hj : j < sz) : (flat l)[i * sz + j]? = x.cells[j]? := by
  have hd := flat_drop h i
  have : ((flat l).drop (i * sz))[j]? = (flat l)[i * sz + j]? := by rw [List.getElem?_drop]
  rw [← this, hd]
  have hl := lt_of_getl hx
  have hx' : l[i] = x := by rw [List.getElem?_eq_getElem hl] at hx; exact Option.some.inj hx
  rw [List.drop_eq_getElem_cons hl, hx']
  show (x.cells ++ flat _)[j]? = _
  rw [List.getElem?_append_left (by rw [h x (List.mem_of_getElem? (by rw [List.getElem?_eq_getElem hl, hx']))]; exact hj)]

/-- the cells o .. of a row are the elements of a list. -/
def Elems (F : Area) (ρ : Rho) (w : World) (cs : Array Value) (o sz : Nat) (l : List AV) : Prop :=
  (∀ x, x ∈ l → x.cells.length = sz) ∧ CRs F ρ w ((cs.toList.drop o).take (l.length * sz)) (flat l)

theorem Elems.mono {F F' : Area} {ρ ρ' : Rho} {w w' : World} {cs : Array Value} {o sz : Nat} {l : List AV} (hρ : ∀ b p, ρ b = some p → ρ' b = some p) (hw : Keeps F w F' w') (h : Elems F ρ w cs o sz l) : Elems F' ρ' w' cs o sz l :=
  ⟨h.1, h.2.mono hρ hw⟩
theorem Elems.room {F : Area} {ρ : Rho} {w : World} {cs : Array Value} {o sz : Nat} {l : List AV} (h : Elems F ρ w cs o sz l) (hl : 0 < l.length * sz) : o + l.length * sz ≤ cs.size := by
  have := h.2.1
  rw [flat_length h.1] at this
  simp at this; omega

theorem CR.lst_of {F : Area} {ρ : Rho} {w : World} {B o c sz : Nat} {cs : Array Value} {e : TypeId} {fz : Nat × Nat} {l : List AV} {tl : Tl} (hb : w.heap[B]? = some (.cells cs e fz))
    (hF : ∀ j, j < l.length * sz → ¬ F B (o + j)) (he : Elems F ρ w cs o sz l) (hl : l.length ≤ c) (hr : o + c * sz ≤ cs.size) (hc : tl = .clip → c = l.length)
    (ht : ∀ t, tl = .own t → l.length < c → ρ t = some (B, o + l.length * sz)) : CR F ρ w (.slice (some ⟨B, o, none⟩) l.length c) (.lst sz l tl) := by
  have key : ∀ (i : Nat) (x : AV) (j : Nat) (y : AV), l[i]? = some x → x.cells[j]? = some y → ∃ v, cs[o + (i * sz + j)]? = some v ∧ CR F ρ w v y := by
    intro i x j y hx hy
    have hj := lt_of_getl hy
    rw [he.1 x (List.mem_of_getElem? hx)] at hj
    have hf := flat_get he.1 hx hj
    rw [hy] at hf
    obtain ⟨v, hv, hc⟩ := he.2.get hf
    refine ⟨v, ?_, hc⟩
    rw [List.getElem?_take] at hv
    split at hv
    · rw [List.getElem?_drop, Array.getElem?_toList] at hv; exact hv
    · cases hv
  refine .lst hb rfl he.1 hF (fun i j => cs.getD (o + (i * sz + j)) Go.undef) (fun i x j y hx hy => ?_) (fun i x j y hx hy => ?_) hl hr hc ht
  · obtain ⟨v, hv, _⟩ := key i x j y hx hy; simp [Array.getD_eq_getD_getElem?, hv]
  · obtain ⟨v, hv, h⟩ := key i x j y hx hy; simpa [Array.getD_eq_getD_getElem?, hv] using h

theorem flat_split {l : List AV} {sz : Nat} (h : ∀ x, x ∈ l → x.cells.length = sz) {q : Nat} {y : AV} (hy : (flat l)[q]? = some y) :
    ∃ i j x, q = i * sz + j ∧ l[i]? = some x ∧ x.cells[j]? = some y := by
  have hq := lt_of_getl hy
  rw [flat_length h] at hq
  have hs : 0 < sz := by rcases Nat.eq_zero_or_pos sz with rfl | h'; · simp at hq
                         · exact h'
  have hi : q / sz < l.length := by rw [Nat.div_lt_iff_lt_mul hs]; exact hq
  have hqe : q = q / sz * sz + q % sz := by rw [Nat.mul_comm]; exact (Nat.div_add_mod q sz).symm
  refine ⟨q / sz, q % sz, l[q / sz], hqe, List.getElem?_eq_getElem hi, ?_⟩
  rw [← flat_get h (List.getElem?_eq_getElem hi) (Nat.mod_lt _ hs), ← hqe]; exact hy

theorem CR.lst_parts {F : Area} {ρ : Rho} {w : World} {B o n c sz : Nat} {cs : Array Value} {e : TypeId} {fz : Nat × Nat} {l : List AV} {tl : Tl} (hb : w.heap[B]? = some (.cells cs e fz)) (hn : n = l.length)
    (hsz : ∀ x, x ∈ l → x.cells.length = sz) (hF : ∀ j, j < l.length * sz → ¬ F B (o + j)) (vs : Nat → Nat → Value)
    (h1 : ∀ i x j y, l[i]? = some x → x.cells[j]? = some y → cs[o + (i * sz + j)]? = some (vs i j))
    (h2 : ∀ i x j y, l[i]? = some x → x.cells[j]? = some y → CR F ρ w (vs i j) y)
    (hl : l.length ≤ c) (hr : o + c * sz ≤ cs.size) (hc : tl = .clip → c = l.length) (ht : ∀ t, tl = .own t → l.length < c → ρ t = some (B, o + l.length * sz)) :
    ∃ B' o' c' cs' e' fz', Value.slice (some ⟨B, o, none⟩) n c = .slice (some ⟨B', o', none⟩) l.length c' ∧ w.heap[B']? = some (.cells cs' e' fz') ∧ (∀ j, j < l.length * sz → ¬ F B' (o' + j)) ∧ Elems F ρ w cs' o' sz l ∧
      l.length ≤ c' ∧ o' + c' * sz ≤ cs'.size ∧ (tl = .clip → c' = l.length) ∧ (∀ t, tl = .own t → l.length < c' → ρ t = some (B', o' + l.length * sz)) := by
  subst hn
  refine ⟨B, o, c, cs, e, fz, rfl, hb, hF, ⟨hsz, ?_, fun q v y hv hy => ?_⟩, hl, hr, hc, ht⟩
  · rw [flat_length hsz]
    have := Nat.mul_le_mul_right sz hl
    simp; omega
  · obtain ⟨i, j, x, rfl, hx, hxy⟩ := flat_split hsz hy
    rw [List.getElem?_take] at hv
    split at hv
    · rw [List.getElem?_drop, Array.getElem?_toList, h1 i x j y hx hxy] at hv
      cases hv; exact h2 i x j y hx hxy
    · cases hv
theorem CR.lst_inv {F : Area} {ρ : Rho} {w : World} {v : Value} {sz : Nat} {l : List AV} {tl : Tl} (h : CR F ρ w v (.lst sz l tl)) (hv : (∀ b, v ≠ .slice b 0 0) ∨ ∃ t, tl = .own t) :
    ∃ B o c cs e fz, v = .slice (some ⟨B, o, none⟩) l.length c ∧ w.heap[B]? = some (.cells cs e fz) ∧ (∀ j, j < l.length * sz → ¬ F B (o + j)) ∧ Elems F ρ w cs o sz l ∧
      l.length ≤ c ∧ o + c * sz ≤ cs.size ∧ (tl = .clip → c = l.length) ∧ (∀ t, tl = .own t → l.length < c → ρ t = some (B, o + l.length * sz)) := by
  cases h with
  | lst0 ht =>
    rcases hv with hv | ⟨t, rfl⟩
    · exact absurd rfl (hv _)
    · exact absurd rfl (ht t)
  | lst hb hn hsz hF vs h1 h2 hl hr hc ht => exact CR.lst_parts hb hn hsz hF vs h1 h2 hl hr hc ht

/-! ## memory -/

def Blk.alive : Blk → Bool
  | .dead | .hole => false
  | _ => true

abbrev View := Nat → Option Blk

def Own (ρ : Rho) (g : View) : Area := fun B off => ∃ b k blk, ρ b = some (B, k) ∧ g b = some blk ∧ blk.alive = true ∧ k ≤ off
def Forb (A : Area) (ρ : Rho) (g : View) : Area := fun B off => Own ρ g B off ∨ A B off

/-- cells that may be written. -/
def Thawed (fz : Nat × Nat) (k n : Nat) : Prop := ∀ off, k ≤ off → off < n → ¬ (fz.1 ≤ off ∧ off < fz.2)

def BR (F : Area) (ρ : Rho) (w : World) (B k : Nat) : Blk → Prop
  | .var l => k = 0 ∧ ∃ cs e fz, w.heap[B]? = some (.cells cs e fz) ∧ Thawed fz 0 cs.size ∧ CRs F ρ w cs.toList l
  | .arr sz l => k = 0 ∧ ∃ cs e fz, w.heap[B]? = some (.cells cs e fz) ∧ Thawed fz 0 cs.size ∧ l.length * sz ≤ cs.size ∧ Elems F ρ w cs 0 sz l
  | .map es => k = 0 ∧ ∃ ents clock, w.heap[B]? = some (.map ents clock) ∧ ents.size = es.length ∧ ∀ (i : Nat) (e : MapEntry) (x : AV × AV), ents[i]? = some e → es[i]? = some x → CR F ρ w e.key x.1 ∧ CR F ρ w e.val x.2
  | .tail => ∃ cs e fz, w.heap[B]? = some (.cells cs e fz) ∧ Thawed fz k cs.size
  | .dead | .hole => True

theorem BR.mono {F F' : Area} {ρ ρ' : Rho} {w w' : World} {B k : Nat} {blk : Blk} (hρ : ∀ b p, ρ b = some p → ρ' b = some p) (hw : Keeps F w F' w') (hB : w'.heap[B]? = w.heap[B]?) (h : BR F ρ w B k blk) : BR F' ρ' w' B k blk := by
  cases blk with
  | var l => obtain ⟨h0, cs, e, fz, h1, h2, h3⟩ := h; exact ⟨h0, cs, e, fz, by rw [hB]; exact h1, h2, h3.mono hρ hw⟩
  | arr sz l => obtain ⟨h0, cs, e, fz, h1, h2, h3, h4⟩ := h; exact ⟨h0, cs, e, fz, by rw [hB]; exact h1, h2, h3, h4.mono hρ hw⟩
  | map es => obtain ⟨h0, ents, clock, h1, h2, h3⟩ := h; exact ⟨h0, ents, clock, by rw [hB]; exact h1, h2, fun i e x he hx => ⟨(h3 i e x he hx).1.mono hρ hw, (h3 i e x he hx).2.mono hρ hw⟩⟩
  | tail => obtain ⟨cs, e, fz, h1, h2⟩ := h; exact ⟨cs, e, fz, by rw [hB]; exact h1, h2⟩
  | dead => trivial
  | hole => trivial

structure HR (G : Nat → Option (List AV)) (A : Area) (ρ : Rho) (w : World) (g : View) : Prop where
  dom : ∀ b, g b = none → ρ b = none
  blk : ∀ b blk, g b = some blk → blk ≠ .hole → ∃ B k, ρ b = some (B, k) ∧ B < w.heap.size ∧ BR (Forb A ρ g) ρ w B k blk
  hole : ∀ b, g b = some .hole → ∀ B k, ρ b = some (B, k) → A B k
  sep : ∀ b b' B k k' x x', ρ b = some (B, k) → ρ b' = some (B, k') → g b = some x → g b' = some x' → x.alive = true → x'.alive = true → b = b'
  avo : ∀ B off, A B off → B < w.heap.size ∧ ¬ Own ρ g B off
  glob : ∀ i cs, G i = some cs → CR (Forb A ρ g) ρ w (.pointer (some ⟨i, 0, none⟩)) (.fp cs 0)

/-- the streams and the tape are as they were. -/
def SameS (w w' : World) : Prop := w'.os = w.os ∧ w'.tape = w.tape ∧ w'.output = w.output
theorem SameS.refl (w : World) : SameS w w := ⟨rfl, rfl, rfl⟩

structure Ext (O : Area) (ρ : Rho) (w : World) (O' : Area) (ρ' : Rho) (w' : World) : Prop where
  sub : ∀ b p, ρ b = some p → ρ' b = some p
  new : ∀ B off, O' B off → O B off ∨ w.heap.size ≤ B
  newρ : ∀ b B k, ρ' b = some (B, k) → ρ b = some (B, k) ∨ O B k ∨ w.heap.size ≤ B
  st : SameS w w'
  size : w.heap.size ≤ w'.heap.size
  keep : ∀ B cs e fz, w.heap[B]? = some (.cells cs e fz) → ∃ cs', w'.heap[B]? = some (.cells cs' e fz) ∧ cs'.size = cs.size ∧ ∀ off, off < cs.size → ¬ O B off → cs'[off]? = cs[off]?
  keepo : ∀ B, B < w.heap.size → (∀ off, ¬ O B off) → w'.heap[B]? = w.heap[B]?

theorem Ext.refl (O : Area) (ρ : Rho) (w : World) : Ext O ρ w O ρ w :=
  ⟨fun _ _ h => h, fun _ _ h => .inl h, fun _ _ _ h => .inl h, SameS.refl w, Nat.le_refl _, fun B cs e fz h => ⟨cs, h, rfl, fun _ _ _ => rfl⟩, fun _ _ _ => rfl⟩
theorem Ext.trans {O O' O'' : Area} {ρ ρ' ρ'' : Rho} {w w' w'' : World} (h : Ext O ρ w O' ρ' w') (h' : Ext O' ρ' w' O'' ρ'' w'') : Ext O ρ w O'' ρ'' w'' := by
  have hn : ∀ B off, B < w.heap.size → ¬ O B off → ¬ O' B off := fun B off hB ho h1 => by
    rcases h.new B off h1 with h2 | h2
    · exact ho h2
    · omega
  refine ⟨fun b p hb => h'.sub b p (h.sub b p hb), fun B off ho => ?_, fun b B k hb => ?_, ⟨h'.st.1.trans h.st.1, h'.st.2.1.trans h.st.2.1, h'.st.2.2.trans h.st.2.2⟩, Nat.le_trans h.size h'.size, fun B cs e fz hb => ?_, fun B hB ho => ?_⟩
  · rcases h'.new B off ho with h1 | h1
    · exact h.new B off h1
    · exact .inr (Nat.le_trans h.size h1)
  · rcases h'.newρ b B k hb with h1 | h1 | h1
    · exact h.newρ b B k h1
    · rcases h.new B k h1 with h2 | h2
      · exact .inr (.inl h2)
      · exact .inr (.inr h2)
    · exact .inr (.inr (Nat.le_trans h.size h1))
  · obtain ⟨cs', hb', hs', hk'⟩ := h.keep B cs e fz hb
    obtain ⟨cs'', hb'', hs'', hk''⟩ := h'.keep B cs' e fz hb'
    have hB := lt_of_get hb
    exact ⟨cs'', hb'', by omega, fun off hoff ho => (hk'' off (by omega) (hn B off hB ho)).trans (hk' off hoff ho)⟩
  · rw [h'.keepo B (by have := h.size; omega) (fun off => hn B off hB (ho off)), h.keepo B hB ho]
theorem Ext.keeps {O O' A : Area} {ρ ρ' : Rho} {w w' : World} (h : Ext O ρ w O' ρ' w') : Keeps (fun B off => O B off ∨ A B off) w (fun B off => O' B off ∨ A B off) w' := by
  intro B cs e fz hb
  obtain ⟨cs', hb', hs', hk'⟩ := h.keep B cs e fz hb
  refine ⟨cs', hb', hs', fun off hoff hF => ⟨hk' off hoff (fun ho => hF (.inl ho)), ?_⟩⟩
  rintro (ho | ha)
  · rcases h.new B off ho with h1 | h1
    · exact hF (.inl h1)
    · have := lt_of_get hb; omega
  · exact hF (.inr ha)
theorem CR.ext {A : Area} {ρ ρ' : Rho} {g g' : View} {w w' : World} (h : Ext (Own ρ g) ρ w (Own ρ' g') ρ' w') {v : Value} {y : AV} (hc : CR (Forb A ρ g) ρ w v y) : CR (Forb A ρ' g') ρ' w' v y :=
  hc.mono h.sub h.keeps
theorem CRs.ext {A : Area} {ρ ρ' : Rho} {g g' : View} {w w' : World} (h : Ext (Own ρ g) ρ w (Own ρ' g') ρ' w') {v : List Value} {y : List AV} (hc : CRs (Forb A ρ g) ρ w v y) : CRs (Forb A ρ' g') ρ' w' v y :=
  hc.mono h.sub h.keeps

/-- one step of memory: at most the block B0 is another one, and blocks are new. -/
theorem HR.upd {G : Nat → Option (List AV)} {A : Area} {ρ ρ' : Rho} {w w' : World} {g g' : View} (B0 : Nat) (h : HR G A ρ w g) (hst : SameS w w')
    (h1 : ∀ b p, ρ b = some p → ρ' b = some p) (h2 : ∀ B, B < w.heap.size → B ≠ B0 → w'.heap[B]? = w.heap[B]?)
    (h3 : ∀ cs e fz, w.heap[B0]? = some (.cells cs e fz) → ∃ cs', w'.heap[B0]? = some (.cells cs' e fz) ∧ cs'.size = cs.size ∧ ∀ off, off < cs.size → ¬ Own ρ g B0 off → cs'[off]? = cs[off]?)
    (h3' : B0 < w.heap.size → (∃ off, Own ρ g B0 off) ∨ w'.heap[B0]? = w.heap[B0]?)
    (h4 : w.heap.size ≤ w'.heap.size) (h8 : ∀ B off, Own ρ' g' B off → Own ρ g B off ∨ w.heap.size ≤ B) (h9 : ∀ b B k, ρ' b = some (B, k) → ρ b = some (B, k) ∨ Own ρ g B k ∨ w.heap.size ≤ B) :
    Ext (Own ρ g) ρ w (Own ρ' g') ρ' w' ∧
    ((∀ b, g' b = none → ρ' b = none) →
     (∀ b blk, g' b = some blk → (g b = some blk ∧ (blk.alive = true → ∀ B k, ρ b = some (B, k) → B ≠ B0)) ∨ (∃ B k, ρ' b = some (B, k) ∧ B < w'.heap.size ∧ BR (Forb A ρ' g') ρ' w' B k blk)) →
     (∀ b b' B k k' x x', ρ' b = some (B, k) → ρ' b' = some (B, k') → g' b = some x → g' b' = some x' → x.alive = true → x'.alive = true → b = b') →
     (∀ b, g' b = some .hole → g b = some .hole ∧ ρ' b = ρ b) → HR G A ρ' w' g') := by
  have hext : Ext (Own ρ g) ρ w (Own ρ' g') ρ' w' := by
    refine ⟨h1, h8, h9, hst, h4, fun B cs e fz hb => ?_, fun B hB ho => ?_⟩
    · by_cases hB : B = B0
      · subst hB; exact h3 cs e fz hb
      · exact ⟨cs, by rw [h2 B (lt_of_get hb) hB]; exact hb, rfl, fun _ _ _ => rfl⟩
    · by_cases hB0 : B = B0
      · subst hB0
        rcases h3' hB with ⟨off, h⟩ | h
        · exact absurd h (ho off)
        · exact h
      · exact h2 B hB hB0
  refine ⟨hext, fun h6 h5 h7 h10 => ⟨h6, fun b blk hb hnh => ?_, fun b hb B k hk => h.hole b (h10 b hb).1 B k (by rw [← (h10 b hb).2]; exact hk), h7, fun B off ha => ?_, fun i cs hi => (h.glob i cs hi).ext hext⟩⟩
  · rcases h5 b blk hb with ⟨h0, hne⟩ | h0
    · obtain ⟨B, k, hr, hlt, hbr⟩ := h.blk b blk h0 hnh
      refine ⟨B, k, h1 _ _ hr, by omega, ?_⟩
      by_cases ha : blk.alive = true
      · exact hbr.mono h1 hext.keeps (h2 B hlt (hne ha B k hr))
      · cases blk <;> simp [Blk.alive] at ha
        · trivial
        · trivial
    · exact h0
  · have := h.avo B off ha
    exact ⟨by omega, fun ho => by rcases h8 B off ho with h' | h'; · exact this.2 h'
                                  · omega⟩

end Go.Proofs.YthfkkflogbibfaaGreatDoor.AM
