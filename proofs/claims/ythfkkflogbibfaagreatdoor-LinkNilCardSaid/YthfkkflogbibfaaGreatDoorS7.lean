/- Names of new memory may be changed; what is forgotten of a state. -/
import Derived.Test.YthfkkflogbibfaaGreatDoorS6
namespace Go.Proofs.YthfkkflogbibfaaGreatDoor.AM
set_option linter.unusedVariables false
set_option linter.unusedSimpArgs false
set_option linter.unusedSectionVars false

mutual
/-- other names. -/
def ren (κ : Nat → Nat) : AV → AV
  | .ptr b off => .ptr (κ b) off
  | .eptr b i sz off => .eptr (κ b) i sz off
  | .fp l off => .fp (rens κ l) off
  | .sl b off len sz c => .sl (κ b) off len sz c
  | .vsl b off len c => .vsl (κ b) off len c
  | .lst sz l tl => .lst sz (rens κ l) (match tl with | .own t => .own (κ t) | .clip => .clip | .open_ => .open_)
  | .map b => .map (κ b)
  | .clo f l m => .clo f (rens κ l) (rens κ m)
  | .agg l => .agg (rens κ l)
  | .tup l => .tup (rens κ l)
  | v => v
def rens (κ : Nat → Nat) : List AV → List AV
  | [] => []
  | x :: xs => ren κ x :: rens κ xs
end
def renP (κ : Nat → Nat) (e : AV × AV) : AV × AV := (ren κ e.1, ren κ e.2)
def renB (κ : Nat → Nat) : Blk → Blk
  | .var l => .var (rens κ l)
  | .arr sz l => .arr sz (rens κ l)
  | .map es => .map (es.map (renP κ))
  | b => b
theorem rens_map (κ : Nat → Nat) : ∀ l : List AV, rens κ l = l.map (ren κ)
  | [] => rfl
  | x :: xs => by rw [rens, rens_map κ xs]; rfl
theorem rens_length (κ : Nat → Nat) (l : List AV) : (rens κ l).length = l.length := by rw [rens_map]; simp
theorem rens_get {κ : Nat → Nat} {l : List AV} {j : Nat} {y : AV} (h : l[j]? = some y) : (rens κ l)[j]? = some (ren κ y) := by rw [rens_map, List.getElem?_map, h]; rfl
theorem rens_get_inv {κ : Nat → Nat} {l : List AV} {j : Nat} {y : AV} (h : (rens κ l)[j]? = some y) : ∃ z, l[j]? = some z ∧ y = ren κ z := by
  rw [rens_map, List.getElem?_map] at h
  cases hz : l[j]? with
  | none => rw [hz] at h; cases h
  | some z => rw [hz] at h; exact ⟨z, rfl, (Option.some.inj h).symm⟩
theorem ren_cells (κ : Nat → Nat) (x : AV) : (ren κ x).cells = rens κ x.cells := by
  cases x <;> simp [ren, AV.cells, rens]

/-- a value by its old names. -/
theorem CR.down {F : Area} {ρ ρ' : Rho} {w : World} {κ : Nat → Nat} (hρ : ∀ b, ρ' b = ρ (κ b)) {v : Value} {z : AV} (h : CR F ρ w v z) : ∀ y, z = ren κ y → CR F ρ' w v y := by
  induction h with
  | bool b => intro y hy; cases y <;> simp [ren] at hy; subst hy; exact .bool _
  | int k n => intro y hy; cases y <;> simp [ren] at hy; obtain ⟨rfl, rfl⟩ := hy; exact .int _ _
  | str s => intro y hy; cases y <;> simp [ren] at hy; subst hy; exact .str _
  | nilp => intro y hy; cases y <;> simp [ren] at hy; exact .nilp
  | ptr h => intro y hy; cases y <;> simp [ren] at hy; obtain ⟨rfl, rfl⟩ := hy; exact .ptr (by rw [hρ]; exact h)
  | eptr h ho => intro y hy; cases y <;> simp [ren] at hy; obtain ⟨rfl, rfl, rfl, rfl⟩ := hy; exact .eptr (by rw [hρ]; exact h) ho
  | fp hb hF vs h1 h2 ho ih =>
    intro y hy
    cases y <;> simp [ren] at hy
    obtain ⟨rfl, rfl⟩ := hy
    exact .fp hb (by rw [rens_length] at hF; exact hF) vs (fun j y hy => h1 j _ (rens_get hy)) (fun j y hy => ih j _ (rens_get hy) y rfl) ho
  | nils => intro y hy; cases y <;> simp [ren] at hy; exact .nils
  | @lst0 base sz tl ht =>
    intro y hy
    cases y <;> simp [ren] at hy
    rename_i sz' l tl'
    obtain ⟨rfl, hl, hy⟩ := hy
    obtain rfl : l = [] := by cases l with
      | nil => rfl
      | cons a l => simp [rens] at hl
    exact .lst0 (fun t e => by subst e; exact ht (κ t) hy)
  | sl h hb hr hl hc ho => intro y hy; cases y <;> simp [ren] at hy; obtain ⟨rfl, rfl, rfl, rfl, rfl⟩ := hy; exact .sl (by rw [hρ]; exact h) hb hr hl hc ho
  | vsl h hl hc ho => intro y hy; cases y <;> simp [ren] at hy; obtain ⟨rfl, rfl, rfl, rfl⟩ := hy; exact .vsl (by rw [hρ]; exact h) hl hc ho
  | lst hb hn hsz hF vs h1 h2 hl hr hc ht ih =>
    intro y hy
    cases y <;> simp [ren] at hy
    rename_i sz' l tl'
    obtain ⟨rfl, rfl, rfl⟩ := hy
    rw [rens_length] at hn hF hl ht
    refine .lst hb hn (fun x hx => ?_) hF vs (fun i x j y hx hy => ?_) (fun i x j y hx hy => ?_) hl hr (fun e => ?_) (fun t e hlt => ?_)
    · have := hsz (ren κ x) (by rw [rens_map]; exact List.mem_map_of_mem hx)
      rw [ren_cells, rens_length] at this; exact this
    · exact h1 i _ j _ (rens_get hx) (by rw [ren_cells]; exact rens_get hy)
    · exact ih i _ j _ (rens_get hx) (by rw [ren_cells]; exact rens_get hy) y rfl
    · subst e; have := hc rfl; rw [rens_length] at this; exact this
    · subst e; rw [hρ]; exact ht (κ t) rfl hlt
  | nilm => intro y hy; cases y <;> simp [ren] at hy; exact .nilm
  | map h => intro y hy; cases y <;> simp [ren] at hy; subst hy; exact .map (by rw [hρ]; exact h)
  | nilf => intro y hy; cases y <;> simp [ren] at hy; exact .nilf
  | clo hf hc vs us h1 h2 h3 h4 ih1 ih2 =>
    intro y hy
    cases y <;> simp [ren] at hy
    obtain ⟨rfl, rfl, rfl⟩ := hy
    rw [rens_length] at hf hc
    exact .clo hf hc vs us (fun j y hy => h1 j _ (rens_get hy)) (fun j y hy => ih1 j _ (rens_get hy) y rfl) (fun j y hy => h3 j _ (rens_get hy)) (fun j y hy => ih2 j _ (rens_get hy) y rfl)
  | nili => intro y hy; cases y <;> simp [ren] at hy; exact .nili
  | agg hn vs h1 h2 ih =>
    intro y hy
    cases y <;> simp [ren] at hy
    subst hy
    rw [rens_length] at hn
    exact .agg hn vs (fun j y hy => h1 j _ (rens_get hy)) (fun j y hy => ih j _ (rens_get hy) y rfl)
  | tup hn vs h1 h2 ih =>
    intro y hy
    cases y <;> simp [ren] at hy
    subst hy
    rw [rens_length] at hn
    exact .tup hn vs (fun j y hy => h1 j _ (rens_get hy)) (fun j y hy => ih j _ (rens_get hy) y rfl)
/-- less is forbidden. -/
theorem CR.less {F F' : Area} {ρ : Rho} {w : World} (hF : ∀ B off, F' B off → F B off) {v : Value} {y : AV} (h : CR F ρ w v y) : CR F' ρ w v y := by
  induction h with
  | bool b => exact .bool b
  | int k n => exact .int k n
  | str s => exact .str s
  | nilp => exact .nilp
  | ptr h => exact .ptr h
  | eptr h ho => exact .eptr h ho
  | fp hb h0 vs h1 h2 ho ih => exact .fp hb (fun j hj hh => h0 j hj (hF _ _ hh)) vs h1 ih ho
  | nils => exact .nils
  | lst0 ht => exact .lst0 ht
  | sl h hb hr hl hc ho => exact .sl h hb hr hl hc ho
  | vsl h hl hc ho => exact .vsl h hl hc ho
  | lst hb hn hsz h0 vs h1 h2 hl hr hc ht ih => exact .lst hb hn hsz (fun j hj hh => h0 j hj (hF _ _ hh)) vs h1 ih hl hr hc ht
  | nilm => exact .nilm
  | map h => exact .map h
  | nilf => exact .nilf
  | clo hf hc vs us h1 h2 h3 h4 ih1 ih2 => exact .clo hf hc vs us h1 ih1 h3 ih2
  | nili => exact .nili
  | agg hn vs h1 h2 ih => exact .agg hn vs h1 ih
  | tup hn vs h1 h2 ih => exact .tup hn vs h1 ih

/-- a value says no more than another one. -/
def Le (y z : AV) : Prop := ∀ (F : Area) (ρ : Rho) (w : World) (v : Value), CR F ρ w v y → CR F ρ w v z
theorem Le.refl (y : AV) : Le y y := fun _ _ _ _ h => h
theorem Le.trans {x y z : AV} (a : Le x y) (b : Le y z) : Le x z := fun F ρ w v h => b F ρ w v (a F ρ w v h)
theorem Le.forget (y : AV) : Le y (forget y) := fun _ _ _ _ h => h.forget
theorem Le.nils {sz : Nat} {tl : Tl} (h : ∀ t, tl ≠ .own t) : Le .nils (.lst sz [] tl) := fun _ _ _ _ hc => by cases hc; exact .lst0 h
theorem Le.open_ {sz : Nat} {l : List AV} {tl : Tl} : Le (.lst sz l tl) (.lst sz l .open_) := fun F ρ w v hc => by
  cases hc with
  | lst0 ht => exact .lst0 nofun
  | lst hb hn hsz hF vs h1 h2 hl hr hc ht => exact .lst hb hn hsz hF vs h1 h2 hl hr nofun nofun
theorem Le.cells {y z : AV} (h : y.cells.length = z.cells.length) (hc : ∀ (j : Nat) a b, y.cells[j]? = some a → z.cells[j]? = some b → Le a b) {F : Area} {ρ : Rho} {w : World} {vs : List Value} (hr : CRs F ρ w vs y.cells) : CRs F ρ w vs z.cells :=
  ⟨hr.1.trans h, fun j v b hv hb => by
    have hj : j < y.cells.length := by rw [h]; exact lt_of_getl hb
    exact hc j _ b (List.getElem?_eq_getElem hj) hb F ρ w v (hr.2 j v _ hv (List.getElem?_eq_getElem hj))⟩
/-- rows, element by element. -/
def Les (l m : List AV) : Prop := l.length = m.length ∧ ∀ (j : Nat) a b, l[j]? = some a → m[j]? = some b → Le a b
theorem Les.refl (l : List AV) : Les l l := ⟨rfl, fun j a b h h' => by rw [h] at h'; cases h'; exact Le.refl a⟩
theorem Les.nil : Les [] [] := Les.refl []
theorem Les.cons {x y : AV} {l m : List AV} (h : Le x y) (hs : Les l m) : Les (x :: l) (y :: m) := by
  refine ⟨by simp [hs.1], fun j a b ha hb => ?_⟩
  cases j with
  | zero => simp at ha hb; subst ha; subst hb; exact h
  | succ j => exact hs.2 j a b (by simpa using ha) (by simpa using hb)
theorem Les.crs {l m : List AV} (h : Les l m) {F : Area} {ρ : Rho} {w : World} {vs : List Value} (hr : CRs F ρ w vs l) : CRs F ρ w vs m :=
  ⟨hr.1.trans h.1, fun j v b hv hb => by
    have hj : j < l.length := by rw [h.1]; exact lt_of_getl hb
    exact h.2 j _ b (List.getElem?_eq_getElem hj) hb F ρ w v (hr.2 j v _ hv (List.getElem?_eq_getElem hj))⟩
theorem Le.agg {l m : List AV} (h : Les l m) : Le (.agg l) (.agg m) := fun F ρ w v hc => by
  obtain ⟨cs, rfl, hcs⟩ := hc.agg_inv
  exact CR.agg_of (h.crs hcs)
theorem Le.tup {l m : List AV} (h : Les l m) : Le (.tup l) (.tup m) := fun F ρ w v hc => by
  obtain ⟨cs, rfl, hcs⟩ := hc.tup_inv
  exact CR.tup_of (h.crs hcs)
def LeB (x y : Blk) : Prop := x.alive = y.alive ∧ (y = .hole → x = .hole) ∧ (x = .hole → y = .hole) ∧ ∀ (F : Area) (ρ : Rho) (w : World) (B k : Nat), BR F ρ w B k x → BR F ρ w B k y
theorem LeB.refl (x : Blk) : LeB x x := ⟨rfl, fun h => h, fun h => h, fun _ _ _ _ _ h => h⟩
theorem LeB.var {l m : List AV} (h : Les l m) : LeB (.var l) (.var m) := ⟨rfl, nofun, nofun, fun F ρ w B k ⟨h0, cs, e, fz, h1, h2, h3⟩ => ⟨h0, cs, e, fz, h1, h2, h.crs h3⟩⟩

theorem BR.down {F : Area} {ρ ρ' : Rho} {w : World} {κ : Nat → Nat} (hρ : ∀ b, ρ' b = ρ (κ b)) {B k : Nat} {x : Blk} (h : BR F ρ w B k (renB κ x)) : BR F ρ' w B k x := by
  have rows : ∀ {vs : List Value} {l : List AV}, CRs F ρ w vs (rens κ l) → CRs F ρ' w vs l := fun {vs l} hr => ⟨by rw [hr.1, rens_length], fun j v y hv hy => (hr.2 j v _ hv (rens_get hy)).down hρ y rfl⟩
  cases x with
  | var l => obtain ⟨h0, cs, e, fz, h1, h2, h3⟩ := h; exact ⟨h0, cs, e, fz, h1, h2, rows h3⟩
  | arr sz l =>
    obtain ⟨h0, cs, e, fz, h1, h2, h3, h4, h5⟩ := h
    rw [rens_length] at h3
    have hfl : flat (rens κ l) = rens κ (flat l) := by
      clear h3 h4 h5
      induction l with
      | nil => rfl
      | cons x l ih => simp only [flat, rens, List.flatMap_cons] at ih ⊢; rw [ren_cells, ih, rens_map, rens_map, rens_map, List.map_append]
    refine ⟨h0, cs, e, fz, h1, h2, h3, fun x hx => ?_, ?_⟩
    · have := h4 (ren κ x) (by rw [rens_map]; exact List.mem_map_of_mem hx)
      rw [ren_cells, rens_length] at this; exact this
    · rw [rens_length, hfl] at h5; exact rows h5
  | map es =>
    obtain ⟨h0, ents, clock, h1, h2, h3⟩ := h
    simp only [List.length_map] at h2
    refine ⟨h0, ents, clock, h1, h2, fun i e x he hx => ?_⟩
    have := h3 i e (renP κ x) he (by rw [List.getElem?_map, hx]; rfl)
    exact ⟨this.1.down hρ _ rfl, this.2.down hρ _ rfl⟩
  | tail => exact h
  | dead => trivial
  | hole => trivial
theorem BR.less {F F' : Area} {ρ : Rho} {w : World} (hF : ∀ B off, F' B off → F B off) {B k : Nat} {x : Blk} (h : BR F ρ w B k x) : BR F' ρ w B k x := by
  have rows : ∀ {vs : List Value} {l : List AV}, CRs F ρ w vs l → CRs F' ρ w vs l := fun {vs l} hr => ⟨hr.1, fun j v y hv hy => (hr.2 j v _ hv hy).less hF⟩
  cases x with
  | var l => obtain ⟨h0, cs, e, fz, h1, h2, h3⟩ := h; exact ⟨h0, cs, e, fz, h1, h2, rows h3⟩
  | arr sz l => obtain ⟨h0, cs, e, fz, h1, h2, h3, h4, h5⟩ := h; exact ⟨h0, cs, e, fz, h1, h2, h3, h4, rows h5⟩
  | map es => obtain ⟨h0, ents, clock, h1, h2, h3⟩ := h; exact ⟨h0, ents, clock, h1, h2, fun i e x he hx => ⟨(h3 i e x he hx).1.less hF, (h3 i e x he hx).2.less hF⟩⟩
  | tail => exact h
  | dead => trivial
  | hole => trivial
theorem renB_alive (κ : Nat → Nat) (x : Blk) : (renB κ x).alive = x.alive := by cases x <;> rfl

/-- slots: known no better. -/
def LeS (y z : AV) : Prop := z = top ∨ Le y z
theorem LeS.tr {y z : AV} (h : LeS y z) {F : Area} {ρ : Rho} {w : World} {v : Value} (ht : TR F ρ w v y) (hy : ∀ sz l, y = .fsl sz l → z = top) : TR F ρ w v z := by
  rcases h with rfl | h
  · exact .inl ⟨0, [], rfl⟩
  · rcases ht with ⟨sz, l, e⟩ | hc
    · rw [hy sz l e]; exact .inl ⟨0, [], rfl⟩
    · exact .inr (h F ρ w v hc)

/-- how a state may be told anew: κ tells of each new name the old one. -/
structure Renamed (n0 : Nat) (κ : Nat → Nat) (τ : Fr) (h : H) (τ' : Fr) (h' : H) : Prop where
  old : ∀ b, b < n0 → κ b = b
  new : ∀ b, n0 ≤ b → n0 ≤ κ b
  out : ∀ b, h'.length ≤ b → h.length ≤ κ b
  blk : ∀ i x, h'[i]? = some x → x ≠ .hole ∧ ∃ y, h[κ i]? = some y ∧ LeB y (renB κ x)
  inj : ∀ i j x y, h'[i]? = some x → h'[j]? = some y → x.alive = true → y.alive = true → κ i = κ j → i = j
  fr : ∀ i, τ' i = top ∨ Le (τ i) (ren κ (τ' i)) ∧ ∀ sz l, τ i ≠ .fsl sz l

theorem Wk.ren {E : Env} {N : Nat} {h0 : H} (hG : ∀ i cs, E.G i = some cs → noRefs cs = true) {κ : Nat → Nat} {τ τ' : Fr} {h h' : H} (hk : Renamed h0.length κ τ h τ' h') : Wk E N h0 τ h τ' h' := by
  rintro A s0 ρ0 w0 w a hn ⟨ρ, hx, hs⟩
  have hr := hs.hr
  refine ⟨fun b => ρ (κ b), ?_, ?_⟩
  all_goals
    have hown : ∀ B off, Own (fun b => ρ (κ b)) (view h') B off → Own ρ (view h) B off := by
      rintro B off ⟨b, k, x, h1, h2, h3, h4⟩
      obtain ⟨_, y, hy, hl⟩ := hk.blk b x h2
      exact ⟨κ b, k, y, h1, hy, by rw [hl.1, renB_alive]; exact h3, h4⟩
  · refine ⟨fun b p hb => ?_, fun B off ho => hx.new B off (hown B off ho), fun b B k hb => ?_, hx.st, hx.size, hx.keep, hx.keepo⟩
    · have hb0 : b < h0.length := by
        rcases Nat.lt_or_ge b h0.length with h1 | h1
        · exact h1
        · rw [hn b h1] at hb; cases hb
      rw [hk.old b hb0]; exact hx.sub b p hb
    · rcases Nat.lt_or_ge b h0.length with h1 | h1
      · rw [hk.old b h1] at hb; exact hx.newρ b B k hb
      · rcases hx.newρ (κ b) B k hb with h2 | h2
        · rw [hn _ (hk.new b h1)] at h2; cases h2
        · exact .inr h2
  · have hF : ∀ B off, Forb A (fun b => ρ (κ b)) (view h') B off → Forb A ρ (view h) B off := fun B off hf => hf.imp (hown B off) (fun h => h)
    refine ⟨⟨fun b hb => ?_, fun b x hb hne => ?_, fun b hb => ?_, fun b b' B k k' x x' h1 h2 h3 h4 h5 h6 => ?_, fun B off ha => ⟨(hr.avo B off ha).1, fun ho => (hr.avo B off ha).2 (hown B off ho)⟩, fun i cs hi => ?_⟩, fun i => ?_, hs.sz, ?_⟩
    · refine hr.dom _ ?_
      have : h'.length ≤ b := by simpa [view] using hb
      have := hk.out b this
      simpa [view] using this
    · obtain ⟨_, y, hy, hl⟩ := hk.blk b x hb
      have hyne : y ≠ .hole := fun e => by
        have := hl.2.2.1 e
        cases x <;> simp [renB] at this hne
      obtain ⟨B, k, h1, h2, h3⟩ := hr.blk (κ b) y hy hyne
      exact ⟨B, k, h1, h2, (BR.down (κ := κ) (ρ := ρ) (fun _ => rfl) (hl.2.2.2 _ _ _ _ _ h3)).less hF⟩
    · exact absurd rfl (hk.blk b _ hb).1
    · obtain ⟨_, y, hy, hl⟩ := hk.blk b x h3
      obtain ⟨_, y', hy', hl'⟩ := hk.blk b' x' h4
      exact hk.inj b b' x x' h3 h4 h5 h6 (hr.sep (κ b) (κ b') B k k' y y' h1 h2 hy hy' (by rw [hl.1, renB_alive]; exact h5) (by rw [hl'.1, renB_alive]; exact h6))
    · exact ((hr.glob i cs hi).less hF).free _ (by simp only [noRef]; exact hG i cs hi)
    · rcases hk.fr i with h1 | ⟨h1, h2⟩
      · exact .inl ⟨0, [], h1⟩
      · have hc := (hs.fr i).resolve_left fun ⟨sz, l, e⟩ => h2 sz l e
        exact .inr ((CR.down (κ := κ) (ρ := ρ) (fun _ => rfl) (h1 _ _ _ _ hc) (τ' i) rfl).less hF)
    · exact ⟨hs.de.1, hs.de.2.1, fun d hd => by
        obtain ⟨D, e1, e2, e3, e4⟩ := hs.de.2.2 d hd
        exact ⟨D, e1, e2, e3, fun off ho => e4 off (hown _ _ ho)⟩⟩
end Go.Proofs.YthfkkflogbibfaaGreatDoor.AM
