/- Names of new memory may be changed; what is forgotten of a state. -/
import Derived.Test.YtcocmlmligjjcaaGreatDoorS6
import Derived.ChangeArms
import Derived.SizedLaws
import GoSem.ClaimJoined
import Derived.Test.YtcocmlmligjjcaaGreatDoorA20
namespace Go.Proofs.YtcocmlmligjjcaaGreatDoor.AM
set_option linter.unusedVariables false
set_option linter.unusedSimpArgs false
set_option linter.unusedSectionVars false

mutual
/-- other names. -/
def ren (κ : Nat → Nat) : AV → AV
  | .ptr b off => .ptr (κ b) off
  | .eptr b i sz off => .eptr (κ b) i sz off
  | .fp l off => .fp (rens κ l) off
  | .sl b off len sz c => .sl (κ b) off len sz c
  | .vsl b off len c => .vsl (κ b) off len c
  | .lst sz l tl => .lst sz (rens κ l) (match tl with | .own t => .own (κ t) | .clip => .clip | .open_ => .open_)
  | .map b => .map (κ b)
  | .clo f l m => .clo f (rens κ l) (rens κ m)
  | .agg l => .agg (rens κ l)
  | .tup l => .tup (rens κ l)
  | v => v
def rens (κ : Nat → Nat) : List AV → List AV
  | [] => []
  | x :: xs => ren κ x :: rens κ xs
end
def renP (κ : Nat → Nat) (e : AV × AV) : AV × AV := (ren κ e.1, ren κ e.2)
def renB (κ : Nat → Nat) : Blk → Blk
  | .var l => .var (rens κ l)
  | .arr sz l => .arr sz (rens κ l)
  | .map es => .map (es.map (renP κ))
  | b => b
theorem rens_map (κ : Nat → Nat) : ∀ l : List AV, rens κ l = l.map (ren κ)
  | [] => rfl
  | x :: xs => by rw [rens, rens_map κ xs]; rfl
theorem rens_length (κ : Nat → Nat) (l : List AV) : (rens κ l).length = l.length := by rw [rens_map]; simp
theorem rens_get {κ : Nat → Nat} {l : List AV} {j : Nat} {y : AV} (h : l[j]? = some y) : (rens κ l)[j]? = some (ren κ y) := by rw [rens_map, List.getElem?_map, h]; rfl
theorem rens_get_inv {κ : Nat → Nat} {l : List AV} {j : Nat} {y : AV} (h : (rens κ l)[j]? = some y) : ∃ z, l[j]? = some z ∧ y = ren κ z := by
  rw [rens_map, List.getElem?_map] at h
  cases hz : l[j]? with
  | none => rw [hz] at h; cases h
  | some z => rw [hz] at h; exact ⟨z, rfl, (Option.some.inj h).symm⟩
theorem ren_cells (κ : Nat → Nat) (x : AV) : (ren κ x).cells = rens κ x.cells := by
  cases x <;> simp [ren, AV.cells, rens]

/-- a value by its old names. -/
theorem CR.down {F : Area} {ρ ρ' : Rho} {w : World} {κ : Nat → Nat} (hρ : ∀ b, ρ' b = ρ (κ b)) {v : Value} {z : AV} (h : CR F ρ w v z) : ∀ y, z = ren κ y → CR F ρ' w v y := by
  induction h with
  | bool b => intro y hy; cases y <;> simp [ren] at hy; subst hy; exact .bool _
  | int k n => intro y hy; cases y <;> simp [ren] at hy; obtain ⟨rfl, rfl⟩ := hy; exact .int _ _
  | str s => intro y hy; cases y <;> simp [ren] at hy; subst hy; exact .str _
  | nilp => intro y hy; cases y <;> simp [ren] at hy; exact .nilp
  | ptr h => intro y hy; cases y <;> simp [ren] at hy; obtain ⟨rfl, rfl⟩ := hy; exact .ptr (by rw [hρ]; exact h)
  | eptr h ho => intro y hy; cases y <;> simp [ren] at hy; obtain ⟨rfl, rfl, rfl, rfl⟩ := hy; exact .eptr (by rw [hρ]; exact h) ho
  | fp hb hF vs h1 h2 ho ih =>
    intro y hy
    cases y <;> simp [ren] at hy
    obtain ⟨rfl, rfl⟩ := hy
    exact .fp hb (by rw [rens_length] at hF; exact hF) vs (fun j y hy => h1 j _ (rens_get hy)) (fun j y hy => ih j _ (rens_get hy) y rfl) ho
  | nils => intro y hy; cases y <;> simp [ren] at hy; exact .nils
  | @lst0 base sz tl ht =>
    intro y hy
    cases y <;> simp [ren] at hy
    rename_i sz' l tl'
    obtain ⟨rfl, hl, hy⟩ := hy
    obtain rfl : l = [] := by cases l with
      | nil => rfl
      | cons a l => simp [rens] at hl
    exact .lst0 (fun t e => by subst e; exact ht (κ t) hy)
  | sl h hb hr hl hc ho => intro y hy; cases y <;> simp [ren] at hy; obtain ⟨rfl, rfl, rfl, rfl, rfl⟩ := hy; exact .sl (by rw [hρ]; exact h) hb hr hl hc ho
  | vsl h hl hc ho => intro y hy; cases y <;> simp [ren] at hy; obtain ⟨rfl, rfl, rfl, rfl⟩ := hy; exact .vsl (by rw [hρ]; exact h) hl hc ho
  | lst hb hn hsz hF vs h1 h2 hl hr hc ht ih =>
    intro y hy
    cases y <;> simp [ren] at hy
    rename_i sz' l tl'
    obtain ⟨rfl, rfl, rfl⟩ := hy
    rw [rens_length] at hn hF hl ht
    refine .lst hb hn (fun x hx => ?_) hF vs (fun i x j y hx hy => ?_) (fun i x j y hx hy => ?_) hl hr (fun e => ?_) (fun t e hlt => ?_)
    · have := hsz (ren κ x) (by rw [rens_map]; exact List.mem_map_of_mem hx)
      rw [ren_cells, rens_length] at this; exact this
    · exact h1 i _ j _ (rens_get hx) (by rw [ren_cells]; exact rens_get hy)
    · exact ih i _ j _ (rens_get hx) (by rw [ren_cells]; exact rens_get hy) y rfl
    · subst e; have := hc rfl; rw [rens_length] at this; exact this
    · subst e; rw [hρ]; exact ht (κ t) rfl hlt
  | nilm => intro y hy; cases y <;> simp [ren] at hy; exact .nilm
  | map h => intro y hy; cases y <;> simp [ren] at hy; subst hy; exact .map (by rw [hρ]; exact h)
  | nilf => intro y hy; cases y <;> simp [ren] at hy; exact .nilf
  | clo hf hc vs us h1 h2 h3 h4 ih1 ih2 =>
    intro y hy
    cases y <;> simp [ren] at hy
    obtain ⟨rfl, rfl, rfl⟩ := hy
    rw [rens_length] at hf hc
    exact .clo hf hc vs us (fun j y hy => h1 j _ (rens_get hy)) (fun j y hy => ih1 j _ (rens_get hy) y rfl) (fun j y hy => h3 j _ (rens_get hy)) (fun j y hy => ih2 j _ (rens_get hy) y rfl)
  | nili => intro y hy; cases y <;> simp [ren] at hy; exact .nili
  | agg hn vs h1 h2 ih =>
    intro y hy
    cases y <;> simp [ren] at hy
    subst hy
    rw [rens_length] at hn
    exact .agg hn vs (fun j y hy => h1 j _ (rens_get hy)) (fun j y hy => ih j _ (rens_get hy) y rfl)
  | tup hn vs h1 h2 ih =>
    intro y hy
    cases y <;> simp [ren] at hy
    subst hy
    rw [rens_length] at hn
    exact .tup hn vs (fun j y hy => h1 j _ (rens_get hy)) (fun j y hy => ih j _ (rens_get hy) y rfl)
/-- less is forbidden. -/
theorem CR.less {F F' : Area} {ρ : Rho} {w : World} (hF : ∀ B off, F' B off → F B off) {v : Value} {y : AV} (h : CR F ρ w v y) : CR F' ρ w v y := by
  induction h with
  | bool b => exact .bool b
  | int k n => exact .int k n
  | str s => exact .str s
  | nilp => exact .nilp
  | ptr h => exact .ptr h
  | eptr h ho => exact .eptr h ho
  | fp hb h0 vs h1 h2 ho ih => exact .fp hb (fun j hj hh => h0 j hj (hF _ _ hh)) vs h1 ih ho
  | nils => exact .nils
  | lst0 ht => exact .lst0 ht
  | sl h hb hr hl hc ho => exact .sl h hb hr hl hc ho
  | vsl h hl hc ho => exact .vsl h hl hc ho
  | lst hb hn hsz h0 vs h1 h2 hl hr hc ht ih => exact .lst hb hn hsz (fun j hj hh => h0 j hj (hF _ _ hh)) vs h1 ih hl hr hc ht
  | nilm => exact .nilm
  | map h => exact .map h
  | nilf => exact .nilf
  | clo hf hc vs us h1 h2 h3 h4 ih1 ih2 => exact .clo hf hc vs us h1 ih1 h3 ih2
  | nili => exact .nili
  | agg hn vs h1 h2 ih => exact .agg hn vs h1 ih
  | tup hn vs h1 h2 ih => exact .tup hn vs h1 ih

/-- a value says no more than another one. -/
def Le (y z : AV) : Prop := ∀ (F : Area) (ρ : Rho) (w : World) (v : Value), CR F ρ w v y → CR F ρ w v z
theorem Le.refl (y : AV) : Le y y := fun _ _ _ _ h => h
theorem Le.trans {x y z : AV} (a : Le x y) (b : Le y z) : Le x z := fun F ρ w v h => b F ρ w v (a F ρ w v h)
theorem Le.forget (y : AV) : Le y (forget y) := fun _ _ _ _ h => h.forget
theorem Le.nils {sz : Nat} {tl : Tl} (h : ∀ t, tl ≠ .own t) : Le .nils (.lst sz [] tl) := fun _ _ _ _ hc => by cases hc; exact .lst0 h
theorem Le.open_ {sz : Nat} {l : List AV} {tl : Tl} : Le (.lst sz l tl) (.lst sz l .open_) := fun F ρ w v hc => by
  cases hc with
  | lst0 ht => exact .lst0 nofun
  | lst hb hn hsz hF vs h1 h2 hl hr hc ht => exact .lst hb hn hsz hF vs h1 h2 hl hr nofun nofun
theorem Le.cells {y z : AV} (h : y.cells.length = z.cells.length) (hc : ∀ (j : Nat) a b, y.cells[j]? = some a → z.cells[j]? = some b → Le a b) {F : Area} {ρ : Rho} {w : World} {vs : List Value} (hr : CRs F ρ w vs y.cells) : CRs F ρ w vs z.cells :=
  ⟨hr.1.trans h, fun j v b hv hb => by
    have hj : j < y.cells.length := by rw [h]; exact lt_of_getl hb
    exact hc j _ b (List.getElem?_eq_getElem hj) hb F ρ w v (hr.2 j v _ hv (List.getElem?_eq_getElem hj))⟩
/-- rows, element by element. -/
def Les (l m : List AV) : Prop := l.length = m.length ∧ ∀ (j : Nat) a b, l[j]? = some a → m[j]? = some b → Le a b
theorem Les.refl (l : List AV) : Les l l := ⟨rfl, fun j a b h h' => by rw [h] at h'; cases h'; exact Le.refl a⟩
theorem Les.nil : Les [] [] := Les.refl []
theorem Les.cons {x y : AV} {l m : List AV} (h : Le x y) (hs : Les l m) : Les (x :: l) (y :: m) := by
  refine ⟨by simp [hs.1], fun j a b ha hb => ?_⟩
  cases j with
  | zero => simp at ha hb; subst ha; subst hb; exact h
  | succ j => exact hs.2 j a b (by simpa using ha) (by simpa using hb)
theorem Les.crs {l m : List AV} (h : Les l m) {F : Area} {ρ : Rho} {w : World} {vs : List Value} (hr : CRs F ρ w vs l) : CRs F ρ w vs m :=
  ⟨hr.1.trans h.1, fun j v b hv hb => by
    have hj : j < l.length := by rw [h.1]; exact lt_of_getl hb
    exact h.2 j _ b (List.getElem?_eq_getElem hj) hb F ρ w v (hr.2 j v _ hv (List.getElem?_eq_getElem hj))⟩
theorem Le.agg {l m : List AV} (h : Les l m) : Le (.agg l) (.agg m) := fun F ρ w v hc => by
  obtain ⟨cs, rfl, hcs⟩ := hc.agg_inv
  exact CR.agg_of (h.crs hcs)
theorem Le.tup {l m : List AV} (h : Les l m) : Le (.tup l) (.tup m) := fun F ρ w v hc => by
  obtain ⟨cs, rfl, hcs⟩ := hc.tup_inv
  exact CR.tup_of (h.crs hcs)
def LeB (x y : Blk) : Prop := x.alive = y.alive ∧ (y = .hole → x = .hole) ∧ (x = .hole → y = .hole) ∧ ∀ (F : Area) (ρ : Rho) (w : World) (B k : Nat), BR F ρ w B k x → BR F ρ w B k y
theorem LeB.refl (x : Blk) : LeB x x := ⟨rfl, fun h => h, fun h => h, fun _ _ _ _ _ h => h⟩
theorem LeB.var {l m : List AV} (h : Les l m) : LeB (.var l) (.var m) := ⟨rfl, nofun, nofun, fun F ρ w B k ⟨h0, cs, e, fz, h1, h2, h3⟩ => ⟨h0, cs, e, fz, h1, h2, h.crs h3⟩⟩

theorem BR.down {F : Area} {ρ ρ' : Rho} {w : World} {κ : Nat → Nat} (hρ : ∀ b, ρ' b = ρ (κ b)) {B k : Nat} {x : Blk} (h : BR F ρ w B k (renB κ x)) : BR F ρ' w B k x := by
  have rows : ∀ {vs : List Value} {l : List AV}, CRs F ρ w vs (rens κ l) → CRs F ρ' w vs l := fun {vs l} hr => ⟨by rw [hr.1, rens_length], fun j v y hv hy => (hr.2 j v _ hv (rens_get hy)).down hρ y rfl⟩
  cases x with
  | var l => obtain ⟨h0, cs, e, fz, h1, h2, h3⟩ := h; exact ⟨h0, cs, e, fz, h1, h2, rows h3⟩
  | arr sz l =>
    obtain ⟨h0, cs, e, fz, h1, h2, h3, h4, h5⟩ := h
    rw [rens_length] at h3
    have hfl : flat (rens κ l) = rens κ (flat l) := by
      clear h3 h4 h5
      induction l with
      | nil => rfl
      | cons x l ih => simp only [flat, rens, List.flatMap_cons] at ih ⊢; rw [ren_cells, ih, rens_map, rens_map, rens_map, List.map_append]
    refine ⟨h0, cs, e, fz, h1, h2, h3, fun x hx => ?_, ?_⟩
    · have := h4 (ren κ x) (by rw [rens_map]; exact List.mem_map_of_mem hx)
      rw [ren_cells, rens_length] at this; exact this
    · rw [rens_length, hfl] at h5; exact rows h5
  | map es =>
    obtain ⟨h0, ents, clock, h1, h2, h3⟩ := h
    simp only [List.length_map] at h2
    refine ⟨h0, ents, clock, h1, h2, fun i e x he hx => ?_⟩
    have := h3 i e (renP κ x) he (by rw [List.getElem?_map, hx]; rfl)
    exact ⟨this.1.down hρ _ rfl, this.2.down hρ _ rfl⟩
  | tail => exact h
  | dead => trivial
  | hole => trivial
theorem BR.less {F F' : Area} {ρ : Rho} {w : World} (hF : ∀ B off, F' B off → F B off) {B k : Nat} {x : Blk} (h : BR F ρ w B k x) : BR F' ρ w B k x := by
  have rows : ∀ {vs : List Value} {l : List AV}, CRs F ρ w vs l → CRs F' ρ w vs l := fun {vs l} hr => ⟨hr.1, fun j v y hv hy => (hr.2 j v _ hv hy).less hF⟩
  cases x with
  | var l => obtain ⟨h0, cs, e, fz, h1, h2, h3⟩ := h; exact ⟨h0, cs, e, fz, h1, h2, rows h3⟩
  | arr sz l => obtain ⟨h0, cs, e, fz, h1, h2, h3, h4, h5⟩ := h; exact ⟨h0, cs, e, fz, h1, h2, h3, h4, rows h5⟩
  | map es => obtain ⟨h0, ents, clock, h1, h2, h3⟩ := h; exact ⟨h0, ents, clock, h1, h2, fun i e x he hx => ⟨(h3 i e x he hx).1.less hF, (h3 i e x he hx).2.less hF⟩⟩
  | tail => exact h
  | dead => trivial
  | hole => trivial
theorem renB_alive (κ : Nat → Nat) (x : Blk) : (renB κ x).alive = x.alive := by cases x <;> rfl

/-- slots: known no better. -/
def LeS (y z : AV) : Prop := z = top ∨ Le y z
theorem LeS.tr {y z : AV} (h : LeS y z) {F : Area} {ρ : Rho} {w : World} {v : Value} (ht : TR F ρ w v y) (hy : ∀ sz l, y = .fsl sz l → z = top) : TR F ρ w v z := by
  rcases h with rfl | h
  · exact .inl ⟨0, [], rfl⟩
  · rcases ht with ⟨sz, l, e⟩ | hc
    · rw [hy sz l e]; exact .inl ⟨0, [], rfl⟩
    · exact .inr (h F ρ w v hc)

/-- how a state may be told anew: κ tells of each new name the old one. -/
structure Renamed (n0 : Nat) (κ : Nat → Nat) (τ : Fr) (h : H) (τ' : Fr) (h' : H) : Prop where
  old : ∀ b, b < n0 → κ b = b
  new : ∀ b, n0 ≤ b → n0 ≤ κ b
  out : ∀ b, h'.length ≤ b → h.length ≤ κ b
  blk : ∀ i x, h'[i]? = some x → x ≠ .hole ∧ ∃ y, h[κ i]? = some y ∧ LeB y (renB κ x)
  inj : ∀ i j x y, h'[i]? = some x → h'[j]? = some y → x.alive = true → y.alive = true → κ i = κ j → i = j
  fr : ∀ i, τ' i = top ∨ Le (τ i) (ren κ (τ' i)) ∧ ∀ sz l, τ i ≠ .fsl sz l

theorem Wk.ren {E : Env} {N : Nat} {h0 : H} (hG : ∀ i cs, E.G i = some cs → noRefs cs = true) {κ : Nat → Nat} {τ τ' : Fr} {h h' : H} (hk : Renamed h0.length κ τ h τ' h') : Wk E N h0 τ h τ' h' := by
  rintro A s0 ρ0 w0 w a hn ⟨ρ, hx, hs⟩
  have hr := hs.hr
  refine ⟨fun b => ρ (κ b), ?_, ?_⟩
  all_goals
    have hown : ∀ B off, Own (fun b => ρ (κ b)) (view h') B off → Own ρ (view h) B off := by
      rintro B off ⟨b, k, x, h1, h2, h3, h4⟩
      obtain ⟨_, y, hy, hl⟩ := hk.blk b x h2
      exact ⟨κ b, k, y, h1, hy, by rw [hl.1, renB_alive]; exact h3, h4⟩
  · refine ⟨fun b p hb => ?_, fun B off ho => hx.new B off (hown B off ho), fun b B k hb => ?_, hx.st, hx.size, hx.keep, hx.keepo⟩
    · have hb0 : b < h0.length := by
        rcases Nat.lt_or_ge b h0.length with h1 | h1
        · exact h1
        · rw [hn b h1] at hb; cases hb
      rw [hk.old b hb0]; exact hx.sub b p hb
    · rcases Nat.lt_or_ge b h0.length with h1 | h1
      · rw [hk.old b h1] at hb; exact hx.newρ b B k hb
      · rcases hx.newρ (κ b) B k hb with h2 | h2
        · rw [hn _ (hk.new b h1)] at h2; cases h2
        · exact .inr h2
  · have hF : ∀ B off, Forb A (fun b => ρ (κ b)) (view h') B off → Forb A ρ (view h) B off := fun B off hf => hf.imp (hown B off) (fun h => h)
    refine ⟨⟨fun b hb => ?_, fun b x hb hne => ?_, fun b hb => ?_, fun b b' B k k' x x' h1 h2 h3 h4 h5 h6 => ?_, fun B off ha => ⟨(hr.avo B off ha).1, fun ho => (hr.avo B off ha).2 (hown B off ho)⟩, fun i cs hi => ?_⟩, fun i => ?_, hs.sz, ?_⟩
    · refine hr.dom _ ?_
      have : h'.length ≤ b := by simpa [view] using hb
      have := hk.out b this
      simpa [view] using this
    · obtain ⟨_, y, hy, hl⟩ := hk.blk b x hb
      have hyne : y ≠ .hole := fun e => by
        have := hl.2.2.1 e
        cases x <;> simp [renB] at this hne
      obtain ⟨B, k, h1, h2, h3⟩ := hr.blk (κ b) y hy hyne
      exact ⟨B, k, h1, h2, (BR.down (κ := κ) (ρ := ρ) (fun _ => rfl) (hl.2.2.2 _ _ _ _ _ h3)).less hF⟩
    · exact absurd rfl (hk.blk b _ hb).1
    · obtain ⟨_, y, hy, hl⟩ := hk.blk b x h3
      obtain ⟨_, y', hy', hl'⟩ := hk.blk b' x' h4
      exact hk.inj b b' x x' h3 h4 h5 h6 (hr.sep (κ b) (κ b') B k k' y y' h1 h2 hy hy' (by rw [hl.1, renB_alive]; exact h5) (by rw [hl'.1, renB_alive]; exact h6))
    · exact ((hr.glob i cs hi).less hF).free _ (by simp only [noRef]; exact hG i cs hi)
    · rcases hk.fr i with h1 | ⟨h1, h2⟩
      · exact .inl ⟨0, [], h1⟩
      · have hc := (hs.fr i).resolve_left fun ⟨sz, l, e⟩ => h2 sz l e
        exact .inr ((CR.down (κ := κ) (ρ := ρ) (fun _ => rfl) (h1 _ _ _ _ hc) (τ' i) rfl).less hF)
    · exact ⟨hs.de.1, hs.de.2.1, fun d hd => by
        obtain ⟨D, e1, e2, e3, e4⟩ := hs.de.2.2 d hd
        exact ⟨D, e1, e2, e3, fun off ho => e4 off (hown _ _ ho)⟩⟩
end Go.Proofs.YtcocmlmligjjcaaGreatDoor.AM

/- Calls as contracts in whatever memory; frames by the slots that are known. -/
namespace Go.Proofs.YtcocmlmligjjcaaGreatDoor.AM
set_option linter.unusedVariables false
set_option linter.unusedSimpArgs false
set_option linter.unusedSectionVars false

/-- a value by its new names. -/
theorem CR.up {F : Area} {ρ ρ' : Rho} {w : World} {κ : Nat → Nat} (hρ : ∀ b p, ρ b = some p → ρ' (κ b) = some p) {v : Value} {y : AV} (h : CR F ρ w v y) : CR F ρ' w v (ren κ y) := by
  induction h with
  | bool b => exact .bool b
  | int k n => exact .int k n
  | str s => exact .str s
  | nilp => exact .nilp
  | ptr h => exact .ptr (hρ _ _ h)
  | eptr h ho => exact .eptr (hρ _ _ h) ho
  | fp hb hF vs h1 h2 ho ih =>
    simp only [ren]
    exact .fp hb (by rw [rens_length]; exact hF) vs (fun j y hy => by obtain ⟨z, hz, rfl⟩ := rens_get_inv hy; exact h1 j z hz) (fun j y hy => by obtain ⟨z, hz, rfl⟩ := rens_get_inv hy; exact ih j z hz) ho
  | nils => exact .nils
  | @lst0 base sz tl ht => simp only [ren, rens]; exact .lst0 (fun t => by cases tl with
      | own t => exact absurd rfl (ht t)
      | clip => nofun
      | open_ => nofun)
  | sl h hb hr hl hc ho => exact .sl (hρ _ _ h) hb hr hl hc ho
  | vsl h hl hc ho => exact .vsl (hρ _ _ h) hl hc ho
  | @lst B o n c sz cs e fz l tl hb hn hsz hF vs h1 h2 hl hr hc ht ih =>
    simp only [ren]
    refine .lst hb (by rw [rens_length]; exact hn) (fun x hx => ?_) (by rw [rens_length]; exact hF) vs (fun i x j y hx hy => ?_) (fun i x j y hx hy => ?_) (by rw [rens_length]; exact hl) hr (fun hcl => ?_) (fun t ht' hlt => ?_)
    · rw [rens_map] at hx
      obtain ⟨z, hz, rfl⟩ := List.mem_map.1 hx
      rw [ren_cells, rens_length]; exact hsz z hz
    · obtain ⟨z, hz, rfl⟩ := rens_get_inv hx
      rw [ren_cells] at hy
      obtain ⟨u, hu, rfl⟩ := rens_get_inv hy
      exact h1 i z j u hz hu
    · obtain ⟨z, hz, rfl⟩ := rens_get_inv hx
      rw [ren_cells] at hy
      obtain ⟨u, hu, rfl⟩ := rens_get_inv hy
      exact ih i z j u hz hu
    · rw [rens_length]
      cases tl with
      | clip => exact hc rfl
      | open_ => cases hcl
      | own t => cases hcl
    · rw [rens_length] at hlt ⊢
      cases tl with
      | clip => cases ht'
      | open_ => cases ht'
      | own t' => cases ht'; exact hρ _ _ (ht t' rfl hlt)
  | nilm => exact .nilm
  | map h => exact .map (hρ _ _ h)
  | nilf => exact .nilf
  | clo hf hc vs us h1 h2 h3 h4 ih1 ih2 =>
    simp only [ren]
    refine .clo (by rw [rens_length]; exact hf) (by rw [rens_length]; exact hc) vs us (fun j y hy => ?_) (fun j y hy => ?_) (fun j y hy => ?_) (fun j y hy => ?_)
    · obtain ⟨z, hz, rfl⟩ := rens_get_inv hy; exact h1 j z hz
    · obtain ⟨z, hz, rfl⟩ := rens_get_inv hy; exact ih1 j z hz
    · obtain ⟨z, hz, rfl⟩ := rens_get_inv hy; exact h3 j z hz
    · obtain ⟨z, hz, rfl⟩ := rens_get_inv hy; exact ih2 j z hz
  | nili => exact .nili
  | agg hn vs h1 h2 ih =>
    simp only [ren]
    exact .agg (by rw [rens_length]; exact hn) vs (fun j y hy => by obtain ⟨z, hz, rfl⟩ := rens_get_inv hy; exact h1 j z hz) (fun j y hy => by obtain ⟨z, hz, rfl⟩ := rens_get_inv hy; exact ih j z hz)
  | tup hn vs h1 h2 ih =>
    simp only [ren]
    exact .tup (by rw [rens_length]; exact hn) vs (fun j y hy => by obtain ⟨z, hz, rfl⟩ := rens_get_inv hy; exact h1 j z hz) (fun j y hy => by obtain ⟨z, hz, rfl⟩ := rens_get_inv hy; exact ih j z hz)
theorem BR.up {F : Area} {ρ ρ' : Rho} {w : World} {κ : Nat → Nat} (hρ : ∀ b p, ρ b = some p → ρ' (κ b) = some p) {B k : Nat} {x : Blk} (h : BR F ρ w B k x) : BR F ρ' w B k (renB κ x) := by
  have rows : ∀ {vs : List Value} {l : List AV}, CRs F ρ w vs l → CRs F ρ' w vs (rens κ l) := fun {vs l} hr => ⟨by rw [hr.1, rens_length], fun j v y hv hy => by obtain ⟨z, hz, rfl⟩ := rens_get_inv hy; exact (hr.2 j v _ hv hz).up hρ⟩
  cases x with
  | var l => obtain ⟨h0, cs, e, fz, h1, h2, h3⟩ := h; exact ⟨h0, cs, e, fz, h1, h2, rows h3⟩
  | arr sz l =>
    obtain ⟨h0, cs, e, fz, h1, h2, h3, h4, h5⟩ := h
    have hfl : flat (rens κ l) = rens κ (flat l) := by
      clear h3 h4 h5
      induction l with
      | nil => rfl
      | cons x l ih => simp only [flat, rens, List.flatMap_cons] at ih ⊢; rw [ren_cells, ih, rens_map, rens_map, rens_map, List.map_append]
    refine ⟨h0, cs, e, fz, h1, h2, by rw [rens_length]; exact h3, fun x hx => ?_, ?_⟩
    · rw [rens_map] at hx
      obtain ⟨z, hz, rfl⟩ := List.mem_map.1 hx
      rw [ren_cells, rens_length]; exact h4 z hz
    · rw [rens_length, hfl]; exact rows h5
  | map es =>
    obtain ⟨h0, ents, clock, h1, h2, h3⟩ := h
    refine ⟨h0, ents, clock, h1, by simpa using h2, fun i e x he hx => ?_⟩
    rw [List.getElem?_map] at hx
    cases hz : es[i]? with
    | none => rw [hz] at hx; cases hx
    | some z =>
      rw [hz] at hx; cases hx
      have := h3 i e z he hz
      exact ⟨this.1.up hρ, this.2.up hρ⟩
  | tail => exact h
  | dead => trivial
  | hole => trivial

/-- a call from no memory of the machine's own, in whatever memory. -/
theorem Con.lift {E : Env} (hG : ∀ i cs, E.G i = some cs → noRefs cs = true) {f : FuncId} {args : List AV} {r : AV} {h' : H} (hc : Con E f args [] r h') (hn : noRefs args = true) (hh : ∀ x, x ∈ h' → x ≠ .hole) (H0 : H) :
    Con E f args H0 (ren (· + H0.length) r) (H0 ++ h'.map (renB (· + H0.length))) := by
  intro A ρ w vs hr hargs
  have hown : ∀ (ρ1 : Rho) B off, ¬ Own ρ1 (view []) B off := fun ρ1 B off ⟨b, k, y, _, hy, _⟩ => by simp [view] at hy
  have hF : Forb (Forb A ρ (view H0)) rho0 (view []) = Forb A ρ (view H0) := funext fun B => funext fun off => propext ⟨fun hh => hh.resolve_left (hown _ B off), .inr⟩
  have hr' : HR E.G (Forb A ρ (view H0)) rho0 w (view []) := by
    refine ⟨fun b _ => rfl, fun b x hb _ => (by simp [view] at hb), fun b hb => (by simp [view] at hb), fun b b' B k k' x x' h => (by cases h), fun B off ha => ⟨?_, hown _ B off⟩, fun i cs hi => ?_⟩
    · rcases ha with ⟨b, k, y, h1, _⟩ | ha
      · exact hr.lt h1
      · exact (hr.avo B off ha).1
    · rw [hF]; exact (hr.glob i cs hi).free rho0 (by simp only [noRef]; exact hG i cs hi)
  obtain ⟨h1, h2⟩ := hc (Forb A ρ (view H0)) rho0 w vs hr' (by rw [hF]; exact hargs.free rho0 hn)
  refine ⟨h1, h2.mono ?_⟩
  rintro e w' ⟨v, ρs, rfl, hx, hs, hcr⟩
  obtain ⟨n, hn0⟩ : ∃ n, n = H0.length := ⟨_, rfl⟩
  rw [← hn0]
  have hge : ∀ b, n ≤ b → ρ b = none := fun b hb => hr.dom b (by simp [view]; omega)
  obtain ⟨ρ', hρ'⟩ : ∃ ρ' : Rho, ρ' = fun b => if b < n then ρ b else ρs (b - n) := ⟨_, rfl⟩
  have hold : ∀ b, b < n → ρ' b = ρ b := fun b hb => by rw [hρ']; simp [hb]
  have hnew : ∀ b, ρ' (b + n) = ρs b := fun b => by rw [hρ']; simp only; rw [if_neg (by omega), Nat.add_sub_cancel]
  have hsub : ∀ b p, ρ b = some p → ρ' b = some p := fun b p hb => by
    rcases Nat.lt_or_ge b n with h | h
    · rw [hold b h]; exact hb
    · rw [hge b h] at hb; cases hb
  obtain ⟨g', hg'⟩ : ∃ g' : View, g' = view (H0 ++ h'.map (renB (· + n))) := ⟨_, rfl⟩
  have gold : ∀ b, b < n → g' b = view H0 b := fun b hb => by rw [hg']; exact List.getElem?_append_left (by omega)
  have gnew : ∀ b, g' (b + n) = (h'[b]?).map (renB (· + n)) := fun b => by
    rw [hg']
    simp only [view]
    rw [List.getElem?_append_right (by omega), List.getElem?_map]
    congr 2; omega
  have split : ∀ b, b < n ∨ ∃ c, b = c + n := fun b => by
    rcases Nat.lt_or_ge b n with h | h
    · exact .inl h
    · exact .inr ⟨b - n, by omega⟩
  have hO : ∀ B off, Own ρ' g' B off ↔ (Own ρ (view H0) B off ∨ Own ρs (view h') B off) := by
    intro B off
    constructor
    · rintro ⟨b, k, x, k1, k2, k3, k4⟩
      rcases split b with hb | ⟨c, rfl⟩
      · rw [hold b hb] at k1; rw [gold b hb] at k2; exact .inl ⟨b, k, x, k1, k2, k3, k4⟩
      · rw [hnew] at k1; rw [gnew] at k2
        cases hz : h'[c]? with
        | none => rw [hz] at k2; cases k2
        | some z =>
          rw [hz] at k2; cases k2
          exact .inr ⟨c, k, z, k1, hz, by rw [← renB_alive]; exact k3, k4⟩
    · rintro (⟨b, k, x, k1, k2, k3, k4⟩ | ⟨b, k, x, k1, k2, k3, k4⟩)
      · have hb : b < n := by
          rcases Nat.lt_or_ge b n with h | h
          · exact h
          · rw [hge b h] at k1; cases k1
        exact ⟨b, k, x, by rw [hold b hb]; exact k1, by rw [gold b hb]; exact k2, k3, k4⟩
      · refine ⟨b + n, k, renB (· + n) x, by rw [hnew]; exact k1, ?_, by rw [renB_alive]; exact k3, k4⟩
        rw [gnew, show h'[b]? = some x from k2]; rfl
  have hFe : Forb (Forb A ρ (view H0)) ρs (view h') = Forb A ρ' g' := by
    funext B off
    apply propext
    unfold Forb
    rw [hO]
    constructor
    · rintro (h | h | h)
      · exact .inl (.inr h)
      · exact .inl (.inl h)
      · exact .inr h
    · rintro ((h | h) | h)
      · exact .inr (.inl h)
      · exact .inl h
      · exact .inr (.inr h)
  have hext : Ext (Own ρ (view H0)) ρ w (Own ρ' g') ρ' w' := by
    refine ⟨hsub, fun B off ho => ?_, fun b B k hb => ?_, hx.st, hx.size, fun B cs e fz hb => ?_, fun B hB _ => hx.keepo B hB (fun off => hown _ B off)⟩
    · rcases (hO B off).1 ho with h | h
      · exact .inl h
      · rcases hx.new B off h with h | h
        · exact absurd h (hown _ B off)
        · exact .inr h
    · rcases split b with h | ⟨c, rfl⟩
      · rw [hold b h] at hb; exact .inl hb
      · rw [hnew] at hb
        rcases hx.newρ c B k hb with h | h | h
        · cases h
        · exact absurd h (hown _ B k)
        · exact .inr (.inr h)
    · obtain ⟨cs', fz', k1, k2, k3⟩ := hx.keep B cs e fz hb
      exact ⟨cs', fz', k1, k2, fun off ho _ => k3 off ho (hown _ B off)⟩
  have hup : ∀ b p, ρs b = some p → ρ' (b + n) = some p := fun b p h => by rw [hnew]; exact h
  rw [hFe] at hcr
  refine ⟨v, ρ', rfl, ?_, ?_, ?_⟩
  · rw [← hg']; exact hext
  · rw [← hg']
    refine ⟨fun b hb => ?_, fun b x hb hne => ?_, fun b hb B k hk => ?_, fun b b' B k k' x x' k1 k2 k3 k4 k5 k6 => ?_, fun B off ha => ⟨Nat.lt_of_lt_of_le (hr.avo B off ha).1 hx.size, fun ho => ?_⟩, fun i cs hi => (hr.glob i cs hi).ext hext⟩
    · rcases split b with h | ⟨c, rfl⟩
      · rw [hold b h]; rw [gold b h] at hb; exact hr.dom b hb
      · rw [hnew]; rw [gnew] at hb
        exact hs.dom c (by simpa [view] using hb)
    · rcases split b with h | ⟨c, rfl⟩
      · rw [gold b h] at hb
        obtain ⟨B, k, k1, k2, k3⟩ := hr.blk b x hb hne
        exact ⟨B, k, by rw [hold b h]; exact k1, Nat.lt_of_lt_of_le k2 hx.size, k3.mono hsub hext.keeps (hx.keepo B k2 (fun off => hown _ B off))⟩
      · rw [gnew] at hb
        cases hz : h'[c]? with
        | none => rw [hz] at hb; cases hb
        | some z =>
          rw [hz] at hb; cases hb
          obtain ⟨B, k, k1, k2, k3⟩ := hs.blk c z hz (hh z (List.mem_of_getElem? hz))
          rw [hFe] at k3
          exact ⟨B, k, by rw [hnew]; exact k1, k2, k3.up hup⟩
    · rcases split b with h | ⟨c, rfl⟩
      · rw [gold b h] at hb; rw [hold b h] at hk; exact hr.hole b hb B k hk
      · rw [gnew] at hb
        cases hz : h'[c]? with
        | none => rw [hz] at hb; cases hb
        | some z =>
          rw [hz] at hb
          have : renB (· + n) z = .hole := by simpa using hb
          exact absurd (by cases z <;> simp [renB] at this ⊢) (hh z (List.mem_of_getElem? hz))
    · have cross : ∀ {b c : Nat} {x z : Blk} {k k' : Nat}, b < n → ρ b = some (B, k) → view H0 b = some x → x.alive = true → ρs c = some (B, k') → h'[c]? = some z → z.alive = true → False := by
        intro b c x z k k' hb q1 q2 q3 q4 q5 q6
        exact (hs.avo B (max k k') (.inl ⟨b, k, x, q1, q2, q3, Nat.le_max_left ..⟩)).2 ⟨c, k', z, q4, q5, q6, Nat.le_max_right ..⟩
      rcases split b with h | ⟨c, rfl⟩
      · rw [hold b h] at k1; rw [gold b h] at k3
        rcases split b' with h' | ⟨c', rfl⟩
        · rw [hold b' h'] at k2; rw [gold b' h'] at k4; exact hr.sep b b' B k k' x x' k1 k2 k3 k4 k5 k6
        · rw [hnew] at k2; rw [gnew] at k4
          cases hz : h'[c']? with
          | none => rw [hz] at k4; cases k4
          | some z => rw [hz] at k4; cases k4; exact (cross h k1 k3 k5 k2 hz (by rw [← renB_alive]; exact k6)).elim
      · rw [hnew] at k1; rw [gnew] at k3
        cases hz : h'[c]? with
        | none => rw [hz] at k3; cases k3
        | some z =>
          rw [hz] at k3; cases k3
          rcases split b' with h' | ⟨c', rfl⟩
          · rw [hold b' h'] at k2; rw [gold b' h'] at k4
            exact (cross h' k2 k4 k6 k1 hz (by rw [← renB_alive]; exact k5)).elim
          · rw [hnew] at k2; rw [gnew] at k4
            cases hz' : h'[c']? with
            | none => rw [hz'] at k4; cases k4
            | some z' =>
              rw [hz'] at k4; cases k4
              rw [hs.sep c c' B k k' z z' k1 k2 hz hz' (by rw [← renB_alive]; exact k5) (by rw [← renB_alive]; exact k6)]
    · rcases (hO B off).1 ho with h | h
      · exact (hr.avo B off ha).2 h
      · exact (hs.avo B off (.inr ha)).2 h
  · rw [← hg']; exact hcr.up hup

/-! ## frames by the slots that are known -/
def look : List (Nat × AV) → Nat → AV
  | [], _ => top
  | (j, v) :: l, i => match Nat.beq i j with
    | true => v
    | false => look l i
abbrev frm (l : List (Nat × AV)) : Fr := look l
theorem look_zip (τ : Fr) : ∀ (L : List Nat) (i : Nat), look (L.zip (L.map τ)) i = τ i ∨ look (L.zip (L.map τ)) i = top
  | [], i => .inr rfl
  | j :: L, i => by
    simp only [List.map_cons, List.zip_cons_cons, look]
    split
    · rename_i h; rw [Nat.eq_of_beq_eq_true h]; exact .inl rfl
    · exact look_zip τ L i
theorem Wk.frm {E : Env} {N : Nat} {h0 : H} {τ τ' : Fr} {h : H} (hf : ∀ i, τ' i = τ i ∨ τ' i = top) : Wk E N h0 τ h τ' h := by
  rintro A s0 ρ0 w0 w a hn ⟨ρ, hx, hs⟩
  refine ⟨ρ, hx, hs.hr, fun i => ?_, hs.sz, hs.de⟩
  rcases hf i with h1 | h1
  · rw [h1]; exact hs.fr i
  · rw [h1]; exact .inl ⟨0, [], rfl⟩

/-- what is seen of a state: some slots, and the memory. -/
noncomputable def obsK (X : SX) (K : Known) (N : Nat) (c : Code) (p : List Nat) (τ : Fr) (h : H) (L : List Nat) : T (AM.X × List AV × H) := (execK X K N c p τ h).bind fun r => .leaf (r.1, L.map r.2.1, r.2.2)
theorem Tri.of_obs {X : SX} (g : Ground X.E) (hcall : CallOK X.E X.calls) {K : Known} {N : Nat} {h0 : H} {body : Code} (hK : KOK X.E N h0 body K) {c : Code} {p : List Nat} (hp : sub body p = c) {τ : Fr} {h : H} {L : List Nat} {x : AM.X} {vs : List AV} {h' : H}
    (hr : (obsK X K N c p τ h L).run = .ok (x, vs, h')) : Tri X.E N h0 c τ h x (frm (L.zip vs)) h' := by
  obtain ⟨⟨x1, τ1, h1⟩, h2, hr⟩ := T.bind_ok hr
  cases hr
  exact .wk .refl (execK_ok g hcall hK hp h2) (.frm (look_zip τ1 L))

/-- a function's results as one value. -/
def one : List AV → AV
  | [v] => v
  | vs => .tup vs
theorem Con.of_tri {E : Env} {f : FuncId} {fn : Func} (hfn : E.P.funcs[f]? = some fn) {c : Code} (hb : fn.body = some c) (hname : (fn.name == "runtime.NumGoroutine") = false) {args : List AV} {h : H} {x : X} {τ : Fr} {h' : H} {N : Nat} (hN : N = max fn.ntmps args.length)
    (hc : Tri E N h c (initFr args) h x τ h') (hx : ∀ i, x ≠ .exit i) {rs : List AV} (hres : resA E τ h' fn.results.toList = .ok rs) : Con E f args h (one rs) h' := by
  subst hN
  intro A ρ w vs hr hargs
  refine ⟨fun W => ?_, ?_⟩
  · unfold callFunc
    simp only [Sem.run_bind, run_program, Result.andThen_ok, hfn]
    rw [if_neg (by simp [hname])]
    simp [hb]
  · have hl : vs.size = args.length := by simpa using hargs.1
    have hst : St E A ρ w { tmps := vs ++ Array.replicate (fn.ntmps - vs.size) Go.undef, defers := [] } (initFr args) (view h) (max fn.ntmps args.length) w.heap.size :=
      ⟨hr, init_frame hargs fn.ntmps, by simp; omega, DeOK.nil (Nat.le_refl _)⟩
    have hw := hc A w.heap.size 0 none ρ w w _ (.inl rfl) (fun b hb => hr.dom b (by simpa [view] using hb)) ⟨ρ, Ext.refl _ _ _, hst⟩
    refine callsIn_wide.1 (callsIn_of_wp_marks (F := Fence.wide) (n := 0) hfn hb trivial (wpIn_mono hw ?_) rfl)
    rintro e a' w2 ⟨rfl, ρ', hx2, hst2⟩
    have fin : ∀ (w' : World), HR E.G A ρ' w' (view h') → FRel (Forb A ρ' (view h')) ρ' w' a'.tmps τ → Ext (Own ρ (view h)) ρ w (Own ρ' (view h')) ρ' w' →
        ∃ v, (results fn a'.tmps).run E.P w' = .ok v w' ∧ ∃ v1 ρ', Ending.returned v = .returned v1 ∧ Ext (Own ρ (view h)) ρ w (Own ρ' (view h')) ρ' w' ∧ HR E.G A ρ' w' (view h') ∧ CR (Forb A ρ' (view h')) ρ' w' v1 (one rs) := by
      intro w' hr' hf' hx'
      obtain ⟨us, h2, h3⟩ := resA_run hr' hf' hres
      refine ⟨if h : us.length = 1 then us[0] else .tuple us.toArray, ?_, _, ρ', rfl, hx', hr', ?_⟩
      · rw [results_eq, Sem.run_bind, Array.mapM_eq_mapM_toList, Sem.run_map, h2]
        simp only [Result.andThen_ok, Sem.run_pure]
        congr 1
      · cases rs with
        | nil =>
          obtain rfl := List.eq_nil_of_length_eq_zero h3.1
          exact .tup_of .nil
        | cons y ys =>
          cases us with
          | nil => have := h3.1; simp at this
          | cons u us =>
            cases ys with
            | nil =>
              obtain rfl : us = [] := by have := h3.1; simpa using this
              simpa [one] using h3.head
            | cons y2 ys =>
              have hlen : ¬ (u :: us).length = 1 := by have := h3.1; simp at this ⊢; intro e; simp [e] at this
              rw [dif_neg hlen]
              exact .tup_of (by simpa using h3)
    cases x with
    | normal => exact leaves_ok fin a'.defers w2 hst2.de hst2.hr hst2.fr hx2
    | ret => exact leaves_ok fin a'.defers w2 hst2.de hst2.hr hst2.fr hx2
    | exit i => exact absurd rfl (hx i)
/-- a weaker result. -/
theorem Con.le {E : Env} {f : FuncId} {args : List AV} {h h' : H} {r r' : AV} (hc : Con E f args h r h') (hl : Le r r') : Con E f args h r' h' := fun A ρ w vs hr hargs =>
  let ⟨h1, h2⟩ := hc A ρ w vs hr hargs
  ⟨h1, h2.mono fun e w' ⟨v, ρ', k1, k2, k3, k4⟩ => ⟨v, ρ', k1, k2, k3, hl _ _ _ _ k4⟩⟩
/-- weaker arguments. -/
theorem Con.args {E : Env} {f : FuncId} {args args' : List AV} {h h' : H} {r : AV} (hc : Con E f args h r h') (hl : Les args' args) : Con E f args' h r h' := fun A ρ w vs hr hargs => hc A ρ w vs hr (hl.crs hargs)
end Go.Proofs.YtcocmlmligjjcaaGreatDoor.AM

/- What a reader finds in memory, as trees: whole numbers, truths, texts, structs, slices, to any depth. -/
namespace Go.Proofs.YtcocmlmligjjcaaGreatDoor.AM
open Go.RowKit
set_option linter.unusedVariables false
set_option linter.unusedSimpArgs false
set_option linter.unusedSectionVars false

def aggB' (P : Program) (t : TypeId) : Bool := match P.underlying t with
  | some (.struct _) | some (.array _ _) => true
  | _ => false
/-- an element out of its cells. -/
def rowAV (P : Program) (e : TypeId) (x : List AV) : AV := match aggB' P e with
  | true => .agg x
  | false => x.headD undef
/-- a row of cells of a type, as a reader finds it. -/
def Shp (P : Program) : Nat → TypeId → List AV → Prop
  | 0, _, _ => False
  | n + 1, t, l => match P.underlying t with
    | some .bool => ∃ b, l = [.bool b]
    | some (.int k) => ∃ m, l = [.int k m] ∧ (Lit.int k m).wf = true
    | some .string => ∃ s, l = [.str s] ∧ s.size ≤ 140737488351232
    | some (.slice e) => ∃ xs : List (List AV), l = [.lst (P.cellsOf e) (xs.map (rowAV P e)) .open_] ∧ xs.length * P.bytesOf e ≤ 140737488351232 ∧ ∀ x, x ∈ xs → Shp P n e x
    | some (.struct fs) => l.length = P.cellsOf t ∧ ∀ f, f ∈ fs.toList → Shp P n f.type ((l.drop f.offset).take (P.cellsOf f.type))
    | _ => False
def tiles (P : Program) : List Field → Nat → Option Nat
  | [], off => some off
  | f :: fs, off => match f.offset == off with
    | true => tiles P fs (off + P.cellsOf f.type)
    | false => none
/-- can a type be read so? -/
def okT (P : Program) : Nat → TypeId → Bool
  | 0, _ => false
  | n + 1, t => match P.underlying t with
    | some .bool | some (.int _) | some .string => P.cellsOf t == 1
    | some (.slice e) => P.cellsOf t == 1 && okT P n e && decide (0 < P.cellsOf e)
    | some (.struct fs) => fs.toList.all (fun f => okT P n f.type) && tiles P fs.toList 0 == some (P.cellsOf t)
    | _ => false

theorem list_choose {α : Type} {Q : Nat → α → Prop} : ∀ n : Nat, (∀ i, i < n → ∃ y, Q i y) → ∃ xs : List α, xs.length = n ∧ ∀ i p, xs[i]? = some p → Q i p
  | 0, _ => ⟨[], rfl, fun i p h => by simp at h⟩
  | n + 1, h => by
    obtain ⟨xs, hl, hx⟩ := list_choose n (fun i hi => h i (by omega))
    obtain ⟨y, hy⟩ := h n (by omega)
    refine ⟨xs ++ [y], by simp [hl], fun i p hp => ?_⟩
    rcases Nat.lt_or_ge i xs.length with hi | hi
    · rw [List.getElem?_append_left hi] at hp; exact hx i p hp
    · have : i = xs.length := by
        have := (List.getElem?_eq_some_iff.1 hp).1
        simp at this; omega
      subst this
      simp at hp
      subst hp
      rw [hl]; exact hy
theorem cells_get {w : World} {base : Nat} {a : Addr} {n : Nat} {cs : List Value} (h : w.cells? base a n = some cs) : cs.length = n ∧ ∀ i u, cs[i]? = some u → w.cell? (a.add i) = some u := by
  obtain ⟨_, hl, hi⟩ := World.cells?_some h
  refine ⟨hl, fun i u hu => ?_⟩
  have := (List.getElem?_eq_some_iff.1 hu).1
  rw [hi i (by omega)]
  exact hu
theorem weights_elem {P : Program} {H : Type} {e : TypeId} {elems : List (DataW H)} {i : Nat} {d : DataW H} (h : elems[i]? = some d) : ∀ n ∈ d.weights P e, n ∈ DataW.weightsAll P e elems := by
  induction elems generalizing i with
  | nil => simp at h
  | cons x xs ih =>
    intro n hn
    unfold DataW.weightsAll
    cases i with
    | zero => simp at h; subst h; exact List.mem_append_left _ hn
    | succ i => simp at h; exact List.mem_append_right _ (ih h n hn)

section
variable {H : Type} {enc : TypeId × Value → H} {P : Program} {w : World} {base : Nat} {held : Bool} {F : Area} {ρ : Rho}

theorem fields_ok {n : Nat} {cs : List Value} : ∀ (fs : List Field) (off tot : Nat), tiles P fs off = some tot → tot ≤ cs.length →
    (∀ f, f ∈ fs → ∃ row, CRs F ρ w ((cs.drop f.offset).take (P.cellsOf f.type)) row ∧ Shp P n f.type row ∧ row.length = P.cellsOf f.type) →
    off ≤ tot ∧ ∃ l, CRs F ρ w ((cs.drop off).take (tot - off)) l ∧ l.length = tot - off ∧ ∀ f, f ∈ fs → off ≤ f.offset ∧ Shp P n f.type ((l.drop (f.offset - off)).take (P.cellsOf f.type)) := by
  intro fs
  induction fs with
  | nil =>
    intro off tot ht hl _
    cases ht
    exact ⟨Nat.le_refl _, [], by simpa using CRs.nil, by simp, fun f h => by cases h⟩
  | cons f fs ih =>
    intro off tot ht hl hx
    simp only [tiles] at ht
    split at ht
    · rename_i hoff
      simp only [beq_iff_eq] at hoff
      obtain ⟨row, r1, r2, r3⟩ := hx f (List.mem_cons_self ..)
      obtain ⟨h1, l, h2, h3, h4⟩ := ih (off + P.cellsOf f.type) tot ht hl (fun g hg => hx g (List.mem_cons_of_mem _ hg))
      refine ⟨by omega, row ++ l, ?_, by simp [r3, h3]; omega, fun g hg => ?_⟩
      · rw [hoff] at r1
        have e1 : (cs.drop off).take (tot - off) = (cs.drop off).take (P.cellsOf f.type) ++ (cs.drop (off + P.cellsOf f.type)).take (tot - (off + P.cellsOf f.type)) := by
          have e2 : tot - off = P.cellsOf f.type + (tot - (off + P.cellsOf f.type)) := by omega
          rw [e2, List.take_add, List.drop_drop]
        rw [e1]; exact r1.append h2
      · rcases List.mem_cons.1 hg with rfl | hg
        · refine ⟨by omega, ?_⟩
          rw [hoff, Nat.sub_self, List.drop_zero, List.take_append_of_le_length (by omega), ← r3, List.take_length]
          exact r2
        · obtain ⟨g1, g2⟩ := h4 g hg
          refine ⟨by omega, ?_⟩
          have e3 : g.offset - off = row.length + (g.offset - (off + P.cellsOf f.type)) := by omega
          rw [e3, List.drop_append, List.drop_eq_nil_of_le (Nat.le_add_right ..), List.nil_append, Nat.add_sub_cancel_left]
          exact g2
    · cases ht

theorem rowAV_cells {e : TypeId} {x : List AV} {n : Nat} (hs : Shp P n e x) (hk : okT P n e = true) (hl : x.length = P.cellsOf e) : (rowAV P e x).cells = x := by
  unfold rowAV
  split
  · rfl
  · rename_i ha
    cases n with
    | zero => cases hk
    | succ n =>
      simp only [Shp] at hs
      unfold aggB' at ha
      cases hu : P.underlying e with
      | none => rw [hu] at hs; exact hs.elim
      | some d =>
        rw [hu] at hs ha
        cases d <;> simp only at hs ha
        all_goals first
          | exact hs.elim
          | (obtain ⟨b, rfl⟩ := hs; rfl)
          | (obtain ⟨b, rfl, _⟩ := hs; rfl)
          | cases ha

theorem open_ok (hF : ∀ B off, ¬ F B off) : ∀ (n : Nat) (t : TypeId), okT P n t = true → ∀ (m : Nat) (cs : List Value) (x : DataW H × List MemPlace), DataW.trod enc P w base (fun _ => true) held m t cs = some x → (∀ k ∈ x.1.weights P t, k ≤ reachBytes) →
    ∃ l, CRs F ρ w cs l ∧ Shp P n t l ∧ l.length = P.cellsOf t := by
  intro n
  induction n with
  | zero => intro t h; cases h
  | succ n ih =>
    intro t hk m cs x hx hw
    simp only [okT] at hk
    cases hu : P.underlying t with
    | none => rw [hu] at hk; cases hk
    | some d =>
      rw [hu] at hk
      simp only [Shp, hu]
      cases d with
      | bool =>
        obtain ⟨b, rfl, rfl⟩ := DataW.trod_bool hu hx
        simp only [beq_iff_eq] at hk
        exact ⟨[.bool b], .cons (.bool _) .nil, ⟨b, rfl⟩, hk.symm⟩
      | int k =>
        obtain ⟨q, rfl, rfl, hwf⟩ := DataW.trod_int hu hx
        simp only [beq_iff_eq] at hk
        exact ⟨[.int k q], .cons (.int _ _) .nil, ⟨q, rfl, hwf⟩, hk.symm⟩
      | string =>
        obtain ⟨s, rfl, rfl, _⟩ := DataW.trod_string hu hx
        simp only [beq_iff_eq] at hk
        refine ⟨[.str s], .cons (.str _) .nil, ⟨s, rfl, ?_⟩, hk.symm⟩
        have := hw s.data.toList.length (by simp [DataW.weights])
        rw [Array.length_toList] at this
        exact this
      | struct fs =>
        simp only [Bool.and_eq_true, List.all_eq_true, beq_iff_eq] at hk
        obtain ⟨xs, q, rfl, rfl, hlen, hxl, hi⟩ := DataW.trod_struct hu hx
        have hw' : ∀ k ∈ DataW.weightsEach P (fs.toList.map (·.type)) (xs.map (·.1)), k ≤ reachBytes := by
          intro k hkk
          refine hw k ?_
          simp only [DataW.weights]
          rw [hu]; exact hkk
        obtain ⟨_, l, h1, h2, h3⟩ := fields_ok (F := F) (ρ := ρ) (w := w) (n := n) (cs := cs) fs.toList 0 (P.cellsOf t) hk.2 (by omega) (fun f hf => by
          obtain ⟨i, hi', rfl⟩ := List.mem_iff_getElem.1 hf
          have hfi : fs[i]? = some fs.toList[i] := by simp at hi' ⊢
          have hxi := hi i _ hfi
          have hil : i < xs.length := by simp at hi'; omega
          rw [List.getElem?_eq_getElem hil] at hxi
          exact ih _ (hk.1 _ hf) q _ _ hxi (fun k hkk => hw' k (DataW.weights_mem_each (j := i) (by rw [List.getElem?_map, List.getElem?_eq_getElem hi']; rfl) (by rw [List.getElem?_map, List.getElem?_eq_getElem hil]; rfl) k hkk)))
        refine ⟨l, ?_, ⟨by simpa using h2, fun f hf => by simpa using (h3 f hf).2⟩, by simpa using h2⟩
        rw [List.drop_zero, Nat.sub_zero, ← hlen, List.take_length] at h1
        exact h1
      | slice e =>
        simp only [Bool.and_eq_true, beq_iff_eq, decide_eq_true_eq] at hk
        obtain ⟨⟨hc1, hke⟩, hpos⟩ := hk
        rcases DataW.trod_slice hu hx with ⟨rfl, rfl⟩ | ⟨a, len, cap, elems, rest, q, rfl, rfl, rfl, hba, hlc, hcm, hel, hi, hsp, _⟩
        · exact ⟨[.lst (P.cellsOf e) [] .open_], .cons (.lst0 nofun) .nil, ⟨[], rfl, by simp, fun x hx => by cases hx⟩, hc1.symm⟩
        · have hwt : ∀ k ∈ DataW.weights P t (DataW.slice (elems.map (·.1)) (rest.map (·.1))), k ≤ reachBytes := hw
          unfold DataW.weights at hwt
          rw [hu] at hwt
          simp only [List.mem_cons, List.mem_append] at hwt
          obtain ⟨hrl, hrest⟩ := hsp rfl
          have hlen : (elems.length + rest.length) * P.bytesOf e ≤ reachBytes := by
            have := hwt _ (.inl rfl)
            simpa using this
          have hadd : ∀ i j, (a.add (i * P.cellsOf e)).add j = a.add (i * P.cellsOf e + j) := fun i j => by
            unfold Addr.add
            by_cases h1 : i * P.cellsOf e = 0 <;> by_cases h2 : j = 0 <;> simp [h1, h2, Nat.add_assoc]
          have hex : ∀ i, i < len → ∃ row, (CRs F ρ w ((List.range (P.cellsOf e)).map fun j => (w.cell? (a.add (i * P.cellsOf e + j))).getD Go.undef) row ∧ (∀ j, j < P.cellsOf e → (w.cell? (a.add (i * P.cellsOf e + j))).isSome)) ∧ Shp P n e row ∧ row.length = P.cellsOf e := by
            intro i hil
            have h1 := hi i hil
            rw [List.getElem?_eq_getElem (show i < elems.length by omega)] at h1
            obtain ⟨c, hcs, ht⟩ := Option.bind_eq_some_iff.1 h1
            obtain ⟨row, r1, r2, r3⟩ := ih e hke q c _ ht (fun k hk' => hwt k (.inr (.inl (weights_elem (i := i) (by rw [List.getElem?_map, List.getElem?_eq_getElem (show i < elems.length by omega)]; rfl) k hk'))))
            obtain ⟨hl, hg⟩ := cells_get hcs
            have hcell : ∀ j, j < P.cellsOf e → w.cell? (a.add (i * P.cellsOf e + j)) = c[j]? := fun j hj => by
              have hjl : j < c.length := by omega
              have := hg j _ (List.getElem?_eq_getElem hjl)
              rw [hadd] at this
              rw [this, List.getElem?_eq_getElem hjl]
            refine ⟨row, ⟨?_, fun j hj => by rw [hcell j hj, List.getElem?_eq_getElem (by omega)]; rfl⟩, r2, r3⟩
            have : ((List.range (P.cellsOf e)).map fun j => (w.cell? (a.add (i * P.cellsOf e + j))).getD Go.undef) = c := by
              refine List.ext_getElem? fun j => ?_
              rw [List.getElem?_map]
              by_cases hj : j < P.cellsOf e
              · rw [List.getElem?_eq_getElem (show j < c.length by omega), List.getElem?_eq_getElem (show j < (List.range (P.cellsOf e)).length by simpa using hj)]
                simp only [Option.map_some, List.getElem_range]
                rw [hcell j hj, List.getElem?_eq_getElem (show j < c.length by omega)]; rfl
              · rw [List.getElem?_eq_none (show c.length ≤ j by omega), List.getElem?_eq_none (show (List.range (P.cellsOf e)).length ≤ j by simpa using hj)]; rfl
            rw [this]; exact r1
          obtain ⟨xs, hxl, hxs⟩ := list_choose len hex
          have hshp : ∀ x, x ∈ xs → Shp P n e x ∧ x.length = P.cellsOf e := fun x hx => by
            obtain ⟨i, hi', rfl⟩ := List.mem_iff_getElem.1 hx
            exact (hxs i _ (List.getElem?_eq_getElem hi')).2
          have hcells : ∀ x, x ∈ xs → (rowAV P e x).cells = x := fun x hx => rowAV_cells (hshp x hx).1 hke (hshp x hx).2
          refine ⟨[.lst (P.cellsOf e) (xs.map (rowAV P e)) .open_], .cons ?_ .nil, ⟨xs, rfl, ?_, fun x hx => (hshp x hx).1⟩, hc1.symm⟩
          · rcases Nat.eq_zero_or_pos cap with h0 | h0
            · subst h0
              obtain rfl : len = 0 := by omega
              obtain rfl := List.eq_nil_of_length_eq_zero hxl
              exact .lst0 nofun
            · -- all cells that there is room for
              have hsome : ∀ i, i < cap → ∀ j, j < P.cellsOf e → (w.cell? (a.add (i * P.cellsOf e + j))).isSome := by
                intro i hic j hj
                rcases Nat.lt_or_ge i len with hil | hil
                · have hxi : i < xs.length := by omega
                  exact (hxs i _ (List.getElem?_eq_getElem hxi)).1.2 j hj
                · have h1 := hrest (i - len) (by omega)
                  rw [List.getElem?_eq_getElem (show i - len < rest.length by omega), show len + (i - len) = i by omega] at h1
                  obtain ⟨c, hcs, _⟩ := Option.bind_eq_some_iff.1 h1
                  obtain ⟨hl, hg⟩ := cells_get hcs
                  have hjl : j < c.length := by omega
                  have := hg j _ (List.getElem?_eq_getElem hjl)
                  rw [hadd] at this
                  rw [this]; rfl
              have h00 := hsome 0 h0 0 hpos
              rw [Nat.zero_mul, Nat.add_zero] at h00
              have ha0 : a.add 0 = a := rfl
              rw [ha0] at h00
              unfold World.cell? at h00
              split at h00
              · rename_i arr et fz hb
                split at h00
                · cases h00
                · rename_i hspot
                  obtain ⟨B, o, sp⟩ := a
                  obtain rfl : sp = none := by simpa using hspot
                  have hcell : ∀ i, i < cap → ∀ j, j < P.cellsOf e → w.cell? ((⟨B, o, none⟩ : Addr).add (i * P.cellsOf e + j)) = arr[o + (i * P.cellsOf e + j)]? ∧ o + (i * P.cellsOf e + j) < arr.size := by
                    intro i hic j hj
                    have hs := hsome i hic j hj
                    rw [add0] at hs ⊢
                    simp only [World.cell?, hb] at hs ⊢
                    refine ⟨by simp, ?_⟩
                    simp only [Option.isSome_none, Bool.false_eq_true, if_false] at hs
                    exact lt_of_get (Option.eq_some_of_isSome hs)
                  refine .lst hb (by simp [hxl]) (fun y hy => ?_) (fun j _ => hF _ _) (fun i j => arr.getD (o + (i * P.cellsOf e + j)) Go.undef) (fun i y j z hy hz => ?_) (fun i y j z hy hz => ?_) (by simp [hxl]; exact hlc) ?_ nofun nofun
                  · obtain ⟨x, hx, rfl⟩ := List.mem_map.1 hy
                    rw [hcells x hx]; exact (hshp x hx).2
                  · have hy' : (xs[i]?).map (rowAV P e) = some y := by rw [← List.getElem?_map]; exact hy
                    obtain ⟨row, hxi, rfl⟩ := Option.map_eq_some_iff.1 hy'
                    have hmem := List.mem_of_getElem? hxi
                    rw [hcells row hmem] at hz
                    have hj : j < P.cellsOf e := by have := lt_of_getl hz; rw [(hshp row hmem).2] at this; exact this
                    have hil : i < len := by have := lt_of_getl hxi; omega
                    obtain ⟨hc1', hlt⟩ := hcell i (by omega) j hj
                    simp [Array.getD_eq_getD_getElem?, Array.getElem?_eq_getElem hlt]
                  · have hy' : (xs[i]?).map (rowAV P e) = some y := by rw [← List.getElem?_map]; exact hy
                    obtain ⟨row, hxi, rfl⟩ := Option.map_eq_some_iff.1 hy'
                    have hmem := List.mem_of_getElem? hxi
                    rw [hcells row hmem] at hz
                    have hj : j < P.cellsOf e := by have := lt_of_getl hz; rw [(hshp row hmem).2] at this; exact this
                    have hil : i < len := by have := lt_of_getl hxi; omega
                    obtain ⟨hc1', hlt⟩ := hcell i (by omega) j hj
                    have := ((hxs i row hxi).1.1).2 j ((w.cell? ((⟨B, o, none⟩ : Addr).add (i * P.cellsOf e + j))).getD Go.undef) z (by rw [List.getElem?_map, List.getElem?_eq_getElem (show j < (List.range (P.cellsOf e)).length by simpa using hj)]; simp) hz
                    rw [hc1', Array.getElem?_eq_getElem hlt] at this
                    simpa [Array.getD_eq_getD_getElem?, Array.getElem?_eq_getElem hlt] using this
                  · have := (hcell (cap - 1) (by omega) (P.cellsOf e - 1) (by omega)).2
                    have e1 : cap * P.cellsOf e = (cap - 1) * P.cellsOf e + P.cellsOf e := by
                      have : cap = (cap - 1) + 1 := by omega
                      rw [this, Nat.add_mul, Nat.one_mul]; simp
                    omega
              · cases h00
          · rw [hxl, ← hel]
            exact Nat.le_trans (Nat.mul_le_mul_right _ (by omega)) hlen
      | _ => simp at hk
end
end Go.Proofs.YtcocmlmligjjcaaGreatDoor.AM

/- Helpers: results that hold no memory; memory at the end that is dropped; the pieces of a function put together. -/
namespace Go.Proofs.YtcocmlmligjjcaaGreatDoor.AM
set_option linter.unusedVariables false
set_option linter.unusedSimpArgs false
set_option linter.unusedSectionVars false

/-- a call whose result holds no memory, in whatever memory. -/
theorem Con.base {E : Env} (hG : ∀ i cs, E.G i = some cs → noRefs cs = true) {f : FuncId} {args : List AV} {r : AV} {h' : H} (hc : Con E f args [] r h') (hn : noRefs args = true) (hb : baseV r = true) (h : H) : Con E f args h r h := by
  intro A ρ w vs hr hargs
  have hown : ∀ (ρ1 : Rho) B off, ¬ Own ρ1 (view []) B off := fun ρ1 B off ⟨b, k, y, _, hy, _⟩ => by simp [view] at hy
  have hF : Forb (Forb A ρ (view h)) rho0 (view []) = Forb A ρ (view h) := funext fun B => funext fun off => propext ⟨fun hh => hh.resolve_left (hown _ B off), .inr⟩
  have hr' : HR E.G (Forb A ρ (view h)) rho0 w (view []) := by
    refine ⟨fun b _ => rfl, fun b x hb _ => (by simp [view] at hb), fun b hb => (by simp [view] at hb), fun b b' B k k' x x' h => (by cases h), fun B off ha => ⟨?_, hown _ B off⟩, fun i cs hi => ?_⟩
    · rcases ha with ⟨b, k, y, h1, _⟩ | ha
      · exact hr.lt h1
      · exact (hr.avo B off ha).1
    · rw [hF]; exact (hr.glob i cs hi).free rho0 (by simp only [noRef]; exact hG i cs hi)
  obtain ⟨h1, h2⟩ := hc (Forb A ρ (view h)) rho0 w vs hr' (by rw [hF]; exact hargs.free rho0 hn)
  refine ⟨h1, h2.mono fun e w' ⟨v, ρ', he, hx, _, hcr⟩ => ⟨v, ρ, he, ?_, ?_, hcr.base _ _ _ hb⟩⟩
  · exact ⟨fun _ _ h => h, fun _ _ h => .inl h, fun _ _ _ h => .inl h, hx.st, hx.size, fun B cs e fz hb => by
      obtain ⟨cs', fz', k1, k2, k3⟩ := hx.keep B cs e fz hb
      exact ⟨cs', fz', k1, k2, fun off ho _ => k3 off ho (hown _ B off)⟩, fun B hB _ => hx.keepo B hB (fun off => hown _ B off)⟩
  · have hk : Keeps (Forb A ρ (view h)) w (Forb A ρ (view h)) w' := fun B cs e fz hb => by
      obtain ⟨cs', fz', k1, k2, k3⟩ := hx.keep B cs e fz hb
      exact ⟨cs', fz', k1, k2, fun off ho hf => ⟨k3 off ho (hown _ B off), hf⟩⟩
    refine ⟨hr.dom, fun b x hb hxh => ?_, hr.hole, hr.sep, fun B off ha => ⟨Nat.lt_of_lt_of_le (hr.avo B off ha).1 hx.size, (hr.avo B off ha).2⟩, fun i cs hi => (hr.glob i cs hi).mono (fun _ _ h => h) hk⟩
    obtain ⟨B, k, k1, k2, k3⟩ := hr.blk b x hb hxh
    exact ⟨B, k, k1, Nat.lt_of_lt_of_le k2 hx.size, k3.mono (fun _ _ h => h) hk (hx.keepo B k2 (fun off => hown _ B off))⟩

/-- a function that answers a truth, from no memory: what the row wants. -/
theorem Con.bool {E : Env} {f : FuncId} {args : List AV} {b : Bool} {h' : H} (hc : Con E f args [] (.bool b) h') {w : World} {vs : Array Value} (hargs : CRs F0 rho0 w vs.toList args) (hg : ∀ i cs, E.G i = some cs → CR F0 rho0 w (.pointer (some ⟨i, 0, none⟩)) (.fp cs 0)) :
    Calls E.P f vs w fun e w' => e = .returned (.bool b) ∧ RowKit.Below w.heap.size w w' :=
  (hc area0 rho0 w vs (hr0 hg) hargs).2.mono fun e w' ⟨v, ρ', h1, h2, h3, h4⟩ => ⟨by rw [h1, toV_eq (x := .bool b) rfl h4], below_of h2⟩

/-- what is reckoned by the machine, as a contract. -/
theorem Con.of_acall {E : Env} (g : Ground E) {n : Nat} {f : FuncId} {args : List AV} {h : H} {r : AV} {h' : H} (hc : acall E n f args h = .ok (r, h')) : Con E f args h r h' := acall_ok g.hS g.hC g.hB g.hmix n f args h r h' hc
/-- contracts ask no more of their ground than the program and its listed variables. -/
theorem Con.env {E E' : Env} {f : FuncId} {args : List AV} {h : H} {r : AV} {h' : H} (hP : E.P = E'.P) (hG : E.G = E'.G) (hc : Con E f args h r h') : Con E' f args h r h' := by
  unfold Con at hc ⊢
  rw [← hP, ← hG]; exact hc

/-- a function's whole run: its answer and the memory. -/
noncomputable def runF (X : SX) (K : Known) (fn : Func) (c : Code) (args : List AV) (h : H) : T (AV × H) := (execK X K (max fn.ntmps args.length) c [] (initFr args) h).bind fun r => match r.1 with
  | .exit _ => .fail
  | _ => (resA X.E r.2.1 r.2.2 fn.results.toList).t.bind fun vs => .leaf (one vs, r.2.2)
theorem Con.of_run {X : SX} (g : Ground X.E) (hcall : CallOK X.E X.calls) {f : FuncId} {fn : Func} (hfn : X.E.P.funcs[f]? = some fn) {c : Code} (hb : fn.body = some c) (hname : (fn.name == "runtime.NumGoroutine") = false) {args : List AV} {h : H} {K : Known}
    (hK : KOK X.E (max fn.ntmps args.length) h c K) {r : AV} {h' : H} (hr : (runF X K fn c args h).run = .ok (r, h')) : Con X.E f args h r h' := by
  obtain ⟨⟨x, τ, h1⟩, h2, hr⟩ := T.bind_ok hr
  have ht := execK_ok g hcall hK (sub_nil c) h2
  have key : ∀ (hx : ∀ i, x ≠ .exit i), ((resA X.E τ h1 fn.results.toList).t.bind fun vs => T.leaf (one vs, h1)).run = .ok (r, h') → Con X.E f args h r h' := by
    intro hx hr
    obtain ⟨rs, h3, hr⟩ := R.tbind_ok hr
    cases hr
    exact Con.of_tri hfn hb hname rfl ht hx h3
  cases x with
  | normal => exact key nofun hr
  | ret => exact key nofun hr
  | exit i => cases hr

/-- memory at the end that nothing looks at any more is dropped; slots that nothing looks at are forgotten. -/
theorem Wk.cut {E : Env} {N : Nat} {h0 : H} (hG : ∀ i cs, E.G i = some cs → noRefs cs = true) {τ τ' : Fr} {h h' extra : H} (he : h = h' ++ extra) (hn : h0.length ≤ h'.length) (hh : ∀ x, x ∈ h' → x ≠ .hole)
    (hb : ∀ x, x ∈ h' → renB (fun b => if b < h'.length then b else b + extra.length) x = x)
    (hf : ∀ i, τ' i = top ∨ (τ i = τ' i ∧ AM.ren (fun b => if b < h'.length then b else b + extra.length) (τ' i) = τ' i ∧ ∀ sz l, τ i ≠ .fsl sz l)) : Wk E N h0 τ h τ' h' := by
  subst he
  refine Wk.ren hG (κ := fun b => if b < h'.length then b else b + extra.length) ⟨fun b hb => ?_, fun b hb => ?_, fun b hb => ?_, fun i x hx => ?_, fun i j x y hx hy _ _ hij => ?_, fun i => ?_⟩
  · rw [if_pos (by omega)]
  · split <;> omega
  · rw [if_neg (by omega), List.length_append]; omega
  · have hi := lt_of_getl hx
    refine ⟨hh x (List.mem_of_getElem? hx), x, ?_, ?_⟩
    · rw [if_pos hi, List.getElem?_append_left hi]; exact hx
    · rw [hb x (List.mem_of_getElem? hx)]; exact LeB.refl x
  · have hi := lt_of_getl hx
    have hj := lt_of_getl hy
    simpa [hi, hj] using hij
  · rcases hf i with h1 | ⟨h1, h2, h3⟩
    · exact .inl h1
    · refine .inr ⟨?_, h3⟩
      rw [h2, h1]; exact Le.refl _
theorem look_all : ∀ (l : List (Nat × AV)) (i : Nat), look l i = top ∨ ∃ p, p ∈ l ∧ look l i = p.2
  | [], i => .inl rfl
  | (j, v) :: l, i => by
    simp only [look]
    split
    · exact .inr ⟨(j, v), List.mem_cons_self .., rfl⟩
    · rcases look_all l i with h | ⟨p, h1, h2⟩
      · exact .inl h
      · exact .inr ⟨p, List.mem_cons_of_mem _ h1, h2⟩
def isFsl : AV → Bool
  | .fsl .. => true
  | _ => false
/-- memory at the end is dropped; the slots stay. -/
theorem Wk.cutF {E : Env} {N : Nat} {h0 : H} (hG : ∀ i cs, E.G i = some cs → noRefs cs = true) {sl : List (Nat × AV)} {h' extra : H} (hn : h0.length ≤ h'.length) (hh : ∀ x, x ∈ h' → x ≠ .hole)
    (hb : ∀ x, x ∈ h' → renB (fun b => if b < h'.length then b else b + extra.length) x = x)
    (hs : ∀ p, p ∈ sl → AM.ren (fun b => if b < h'.length then b else b + extra.length) p.2 = p.2 ∧ isFsl p.2 = false) : Wk E N h0 (AM.frm sl) (h' ++ extra) (AM.frm sl) h' := by
  refine Wk.cut hG rfl hn hh hb (fun i => ?_)
  rcases look_all sl i with h1 | ⟨p, h1, h2⟩
  · exact .inl h1
  · refine .inr ⟨rfl, by show AM.ren _ (look sl i) = look sl i; rw [h2]; exact (hs p h1).1, fun sz l e => ?_⟩
    have : look sl i = .fsl sz l := e
    rw [h2] at this
    have h3 := (hs p h1).2
    rw [this] at h3; cases h3
/-- fewer slots are known. -/
theorem Wk.fewer {E : Env} {N : Nat} {h0 : H} {τ : Fr} {sl : List (Nat × AV)} {h : H} (hs : ∀ p, p ∈ sl → τ p.1 = p.2) : Wk E N h0 τ h (AM.frm sl) h := by
  refine Wk.frm (E := E) fun i => ?_
  have key : ∀ (l : List (Nat × AV)), (∀ p, p ∈ l → τ p.1 = p.2) → look l i = τ i ∨ look l i = top := by
    intro l
    induction l with
    | nil => intro _; exact .inr rfl
    | cons p l ih =>
      intro hl
      obtain ⟨j, v⟩ := p
      simp only [look]
      split
      · rename_i he
        rw [Nat.eq_of_beq_eq_true he]
        exact .inl (hl (j, v) (List.mem_cons_self ..)).symm
      · exact ih fun p hp => hl p (List.mem_cons_of_mem _ hp)
  exact key sl hs
end Go.Proofs.YtcocmlmligjjcaaGreatDoor.AM

/- The symbolic machine calls: functions without loops of unknown length are gone through where they are called. -/
namespace Go.Proofs.YtcocmlmligjjcaaGreatDoor.AM
set_option linter.unusedVariables false
set_option linter.unusedSimpArgs false
set_option linter.unusedSectionVars false

/-- calls: by what is known of them; else by the function's own code. -/
noncomputable def tcall (E : Env) (con split : FuncId → Nat → Bool) (C : FuncId → List AV → H → Option (T (AV × H))) : Nat → FuncId → List AV → H → T (AV × H)
  | 0, _, _, _ => .fail
  | n + 1, f, args, h => match C f args h with
    | some t => t
    | none => match E.P.funcs[f]? with
      | some fn => (match fn.body with
        | some c => (match fn.name == "runtime.NumGoroutine" with
          | true => .fail
          | false => runF { E := E, f := f, con := con f, split := split f, call := tcall E con split C n } (fun _ => none) fn c args h)
        | none => .fail)
      | none => .fail
theorem tcall_ok {E : Env} (g : Ground E) {con split : FuncId → Nat → Bool} {C : FuncId → List AV → H → Option (T (AV × H))} (hC : ∀ f args h t, C f args h = some t → ∀ r h', t.run = .ok (r, h') → Con E f args h r h') :
    ∀ n f args h r h', (tcall E con split C n f args h).run = .ok (r, h') → Con E f args h r h' := by
  intro n
  induction n with
  | zero => intro f args h r h' hr; cases hr
  | succ n ih =>
    intro f args h r h' hr
    simp only [tcall] at hr
    split at hr
    · rename_i t ht
      exact hC f args h t ht r h' hr
    · split at hr
      · rename_i fn hfn
        split at hr
        · rename_i c hb
          split at hr
          · cases hr
          · rename_i hname
            exact Con.of_run (X := { E := E, f := f, con := con f, split := split f, call := tcall E con split C n }) g (fun f args h r h' hc => ih f args h r h' hc) hfn hb hname KOK.none hr
        · cases hr
      · cases hr
end Go.Proofs.YtcocmlmligjjcaaGreatDoor.AM

/- Closed runs in pieces: the abstract machine's own answer piece by piece of the code, memory swept in between; trees whose leaves are all true. -/
namespace Go.Proofs.YtcocmlmligjjcaaGreatDoor.AM
set_option linter.unusedVariables false
set_option linter.unusedSimpArgs false
set_option linter.unusedSectionVars false

def obsR (L : List Nat) (r : R (X × Fr × H)) : R (X × List AV × H) := r.bind fun r => .ok (r.1, L.map r.2.1, r.2.2)
theorem Tri.of_exec {E : Env} (g : Ground E) {n : Nat} {f : FuncId} {N : Nat} {h0 : H} {c : Code} {τ : Fr} {h : H} {L : List Nat} {x : X} {vs : List AV} {h' : H} (hr : obsR L (exec E f (acall E n) N c τ h) = .ok (x, vs, h')) : Tri E N h0 c τ h x (AM.frm (L.zip vs)) h' := by
  obtain ⟨⟨x1, τ1, h1⟩, h2, hr⟩ := R.bind_ok hr
  cases hr
  exact .wk .refl (.of_code (fun A s0 nn rd ρ w a hrd hs => exec_wp g.hS g.hC g.hB (acall_ok g.hS g.hC g.hB g.hmix n) g.hmix c rd nn τ h x1 τ1 h1 ρ w a hrd h2 hs)) (.frm (look_zip τ1 L))

def kapL (κ : List Nat) (K : Nat) (b : Nat) : Nat := match κ[b]? with
  | some c => c
  | none => b + K
/-- memory swept: κ tells of each place kept where it stood. -/
def sweepB (n0 : Nat) (κ : List Nat) (K : Nat) (sl : List (Nat × AV)) (h : H) (sl' : List (Nat × AV)) (h' : H) : Bool :=
  h'.length == κ.length && decide (h.length ≤ κ.length + K) && decide (n0 ≤ κ.length) &&
  ((List.range κ.length).all fun i => (if i < n0 then kapL κ K i == i else decide (n0 ≤ kapL κ K i)) &&
    (match h'[i]? with
     | some .hole => false
     | some x => sameBlk (h[kapL κ K i]?) (some (renB (kapL κ K) x))
     | none => false) &&
    (List.range κ.length).all fun j => i == j || kapL κ K i != kapL κ K j) &&
  sl'.all fun p => isFsl p.2 || (same (look sl p.1) (ren (kapL κ K) p.2) && !isFsl (look sl p.1))
theorem sweep_ok {E : Env} {N : Nat} {h0 : H} (hG : ∀ i cs, E.G i = some cs → noRefs cs = true) {κ : List Nat} {K : Nat} {sl sl' : List (Nat × AV)} {h h' : H} (hb : sweepB h0.length κ K sl h sl' h' = true) : Wk E N h0 (AM.frm sl) h (AM.frm (sl'.filter fun p => !isFsl p.2)) h' := by
  simp only [sweepB, Bool.and_eq_true, beq_iff_eq, decide_eq_true_eq] at hb
  obtain ⟨⟨⟨⟨h1, h2⟩, h3⟩, h4⟩, h5⟩ := hb
  have h4' : ∀ i, i < κ.length → _ := fun i hi => List.all_eq_true.1 h4 i (List.mem_range.2 hi)
  have hout : ∀ b, κ.length ≤ b → kapL κ K b = b + K := fun b hb => by unfold kapL; rw [List.getElem?_eq_none hb]
  refine Wk.ren hG (κ := kapL κ K) ⟨fun b hb => ?_, fun b hb => ?_, fun b hb => by rw [hout b (by omega)]; omega, fun i x hx => ?_, fun i j x y hx hy _ _ hij => ?_, fun i => ?_⟩
  · have := h4' b (by omega)
    simp only [Bool.and_eq_true] at this
    have h6 := this.1.1
    rw [if_pos hb] at h6
    simpa using h6
  · rcases Nat.lt_or_ge b κ.length with hlt | hge
    · have := h4' b hlt
      simp only [Bool.and_eq_true] at this
      have h6 := this.1.1
      rw [if_neg (by omega)] at h6
      simpa using h6
    · rw [hout b hge]; omega
  · have hi : i < κ.length := by rw [← h1]; exact lt_of_getl hx
    have := h4' i hi
    simp only [Bool.and_eq_true] at this
    have h6 := this.1.2
    rw [hx] at h6
    have hx0 : x ≠ .hole := fun e => by subst e; cases h6
    refine ⟨hx0, ?_⟩
    have h7 : sameBlk (h[kapL κ K i]?) (some (renB (kapL κ K) x)) = true := by
      cases x <;> first | exact absurd rfl hx0 | exact h6
    exact ⟨_, sameBlk_eq h7, LeB.refl _⟩
  · have hi : i < κ.length := by rw [← h1]; exact lt_of_getl hx
    have hj : j < κ.length := by rw [← h1]; exact lt_of_getl hy
    have := h4' i hi
    simp only [Bool.and_eq_true] at this
    have h6 := List.all_eq_true.1 this.2 j (List.mem_range.2 hj)
    simp only [Bool.or_eq_true, beq_iff_eq, bne_iff_ne] at h6
    rcases h6 with h6 | h6
    · exact h6
    · exact absurd hij h6
  · rcases look_all (sl'.filter fun p => !isFsl p.2) i with h6 | ⟨p, h6, h7⟩
    · exact .inl h6
    · -- the first one of its slot
      have key : ∀ (l : List (Nat × AV)), (l.all fun p => isFsl p.2 || (same (look sl p.1) (ren (kapL κ K) p.2) && !isFsl (look sl p.1))) = true → look (l.filter fun p => !isFsl p.2) i = top ∨ (look sl i = ren (kapL κ K) (look (l.filter fun p => !isFsl p.2) i) ∧ isFsl (look sl i) = false) := by
        intro l
        induction l with
        | nil => intro _; exact .inl rfl
        | cons q l ih =>
          intro hl
          simp only [List.all_cons, Bool.and_eq_true] at hl
          obtain ⟨j, v⟩ := q
          rw [List.filter_cons]
          cases hv : isFsl v with
          | true => simpa [hv] using ih hl.2
          | false =>
            simp only [hv, Bool.not_false, if_true]
            have hl1 := hl.1
            simp only [hv, Bool.false_or, Bool.and_eq_true, Bool.not_eq_true'] at hl1
            simp only [look]
            split
            · rename_i hij
              rw [Nat.eq_of_beq_eq_true hij]
              exact .inr ⟨same_eq _ _ hl1.1, hl1.2⟩
            · exact ih hl.2
      rcases key sl' h5 with h8 | ⟨h8, h9⟩
      · exact .inl h8
      · refine .inr ⟨?_, fun sz l e => ?_⟩
        · have : Le (look sl i) (ren (kapL κ K) (look (sl'.filter fun p => !isFsl p.2) i)) := by rw [← h8]; exact Le.refl _
          exact this
        · have e' : look sl i = .fsl sz l := e
          rw [e'] at h9; cases h9

/-- all answers are true, whatever the questions' answers. -/
def allTrue : T (AV × H) → Bool
  | .leaf (.bool true, _) => true
  | .br _ t e => allTrue t && allTrue e
  | _ => false
theorem allTrue_ok : ∀ (t : T (AV × H)), allTrue t = true → ∃ h', t.run = .ok (.bool true, h') := by
  intro t
  induction t with
  | leaf p =>
    intro hb
    obtain ⟨v, h⟩ := p
    cases v with
    | bool b => cases b with
      | true => exact ⟨h, rfl⟩
      | false => cases hb
    | _ => cases hb
  | fail => intro hb; cases hb
  | br c t e iht ihe =>
    intro hb
    simp only [allTrue, Bool.and_eq_true] at hb
    cases c with
    | true => exact iht hb.1
    | false => exact ihe hb.2
end Go.Proofs.YtcocmlmligjjcaaGreatDoor.AM

/- Typed readings: what a reader finds as a value of a Lean type, and back. -/
namespace Go.Proofs.YtcocmlmligjjcaaGreatDoor.AM
set_option linter.unusedVariables false
set_option linter.unusedSimpArgs false
set_option linter.unusedSectionVars false

theorem shp_struct {P : Program} {n : Nat} {t : TypeId} {l : List AV} {fs : Array Field} (hu : P.underlying t = some (.struct fs)) (h : Shp P (n + 1) t l) : l.length = P.cellsOf t ∧ ∀ f, f ∈ fs.toList → Shp P n f.type ((l.drop f.offset).take (P.cellsOf f.type)) := by
  simp only [Shp, hu] at h; exact h
theorem shp_slice {P : Program} {n : Nat} {t e : TypeId} {l : List AV} (hu : P.underlying t = some (.slice e)) (h : Shp P (n + 1) t l) : ∃ xs : List (List AV), l = [.lst (P.cellsOf e) (xs.map (rowAV P e)) .open_] ∧ xs.length * P.bytesOf e ≤ 140737488351232 ∧ ∀ x, x ∈ xs → Shp P n e x := by
  simp only [Shp, hu] at h; exact h
theorem reach_of {P : Program} {H : Type} {ts : List TypeId} {ds : List (DataW H)} (h : (DataW.weightsEach P ts ds).all (· ≤ reachBytes) = true) {j : Nat} {t : TypeId} {d : DataW H} (ht : ts[j]? = some t) (hd : ds[j]? = some d) : ∀ n ∈ d.weights P t, n ≤ reachBytes := by
  intro n hn
  have := List.all_eq_true.1 h _ (DataW.weights_mem_each ht hd n hn)
  simpa using this
theorem Les.forgets (l : List AV) : Les l (forgets l) := by
  refine ⟨(forgets_length l).symm, fun j a b ha hb => ?_⟩
  obtain ⟨z, hz, rfl⟩ := forgets_get hb
  rw [ha] at hz; cases hz
  exact Le.forget a

/-- types of data. -/
inductive Ty where
  | int (k : IntKind)
  | bool
  | str
  | slice (t : Ty)
  | pair (a b : Ty)
  | one (a : Ty)
def Ty.I : Ty → Type
  | .int _ => Int
  | .bool => Bool
  | .str => ByteArray
  | .slice t => List t.I
  | .pair a b => a.I × b.I
  | .one a => a.I
def Ty.cells : Ty → Nat
  | .pair a b => a.cells + b.cells
  | .one a => a.cells
  | _ => 1
def Ty.isAgg : Ty → Bool
  | .pair .. | .one _ => true
  | _ => false
def Ty.wrap (t : Ty) (r : List AV) : AV := match t with
  | .pair .. | .one _ => .agg r
  | _ => r.headD undef
/-- the cells of a value. -/
def Ty.row : (t : Ty) → t.I → List AV
  | .int k, (n : Int) => [.int k n]
  | .bool, (b : Bool) => [.bool b]
  | .str, (s : ByteArray) => [.str s]
  | .slice t, (xs : List t.I) => [.lst t.cells (xs.map fun x => t.wrap (t.row x)) .open_]
  | .pair a b, (x, y) => a.row x ++ b.row y
  | .one a, x => a.row x
/-- no number, text or row is larger than memory lets it be. -/
def Ty.okay : (t : Ty) → t.I → Prop
  | .int k, (n : Int) => (Lit.int k n).wf = true
  | .bool, (_ : Bool) => True
  | .str, (s : ByteArray) => s.size ≤ 140737488351232
  | .slice t, (xs : List t.I) => xs.length ≤ 140737488351232 ∧ ∀ x, x ∈ xs → t.okay x
  | .pair a b, (x, y) => a.okay x ∧ b.okay y
  | .one a, x => a.okay x
/-- a value as an element, or as an argument. -/
def Ty.elem (t : Ty) (x : t.I) : AV := t.wrap (t.row x)
theorem Ty.row_length : ∀ (t : Ty) (x : t.I), (t.row x).length = t.cells
  | .int _, _ => rfl
  | .bool, _ => rfl
  | .str, _ => rfl
  | .slice _, _ => rfl
  | .pair a b, (x, y) => by simp only [Ty.row, Ty.cells, List.length_append, Ty.row_length a x, Ty.row_length b y]
  | .one a, x => by simp only [Ty.row, Ty.cells, Ty.row_length a x]
mutual
/-- a program's type as a type of data. -/
def Ty.of (P : Program) : Nat → TypeId → Option Ty
  | 0, _ => none
  | n + 1, t => match P.underlying t with
    | some .bool => some .bool
    | some (.int k) => some (.int k)
    | some .string => some .str
    | some (.slice e) => match Ty.of P n e with
      | some u => if (P.cellsOf e = u.cells ∧ aggB' P e = u.isAgg) ∧ 1 ≤ P.bytesOf e then some (.slice u) else none
      | none => none
    | some (.struct fs) => match fs.toList with
      | [f] => match Ty.of P n f.type with
        | some u => if f.offset = 0 ∧ P.cellsOf f.type = u.cells ∧ P.cellsOf t = u.cells then some (.one u) else none
        | none => none
      | fs => match Ty.ofs P n fs 0 with
        | some u => if P.cellsOf t = u.cells then some u else none
        | none => none
    | _ => none
  termination_by structural n => n
def Ty.ofs (P : Program) : Nat → List Field → Nat → Option Ty
  | 0, _, _ => none
  | n + 1, fs, off => match fs with
    | [] => none
    | f :: fs => match Ty.of P n f.type with
      | some u => if f.offset = off ∧ P.cellsOf f.type = u.cells then (match fs with
          | [] => some u
          | fs => match Ty.ofs P n fs (off + u.cells) with
            | some w => some (.pair u w)
            | none => none) else none
      | none => none
  termination_by structural n => n
end
theorem wrap_row {P : Program} {e : TypeId} {u : Ty} (h : aggB' P e = u.isAgg) (x : List AV) : rowAV P e x = u.wrap x := by
  unfold rowAV
  rw [h]
  cases u <;> rfl
theorem rows_choose {α β : Type} {f : α → β} {Q : α → Prop} : ∀ (xs : List β), (∀ x, x ∈ xs → ∃ y, x = f y ∧ Q y) → ∃ ys : List α, xs = ys.map f ∧ ∀ y, y ∈ ys → Q y
  | [], _ => ⟨[], rfl, nofun⟩
  | x :: xs, h => by
    obtain ⟨ys, h1, h3⟩ := rows_choose xs (fun y hy => h y (List.mem_cons_of_mem _ hy))
    obtain ⟨y, h2, h4⟩ := h x (List.mem_cons_self ..)
    exact ⟨y :: ys, by rw [List.map_cons, ← h1, ← h2], fun z hz => by
      rcases List.mem_cons.1 hz with rfl | hz
      · exact h4
      · exact h3 z hz⟩
theorem shp_ty {P : Program} : ∀ n,
    (∀ (t : TypeId) (ty : Ty), Ty.of P n t = some ty → ∀ (m : Nat) (l : List AV), Shp P m t l → ∃ x : ty.I, l = ty.row x ∧ ty.okay x) ∧
    (∀ (fs : List Field) (off : Nat) (u : Ty), Ty.ofs P n fs off = some u → ∀ (m : Nat) (l : List AV), (∀ f, f ∈ fs → Shp P m f.type ((l.drop f.offset).take (P.cellsOf f.type))) → l.length = off + u.cells → ∃ x : u.I, l.drop off = u.row x ∧ u.okay x) := by
  intro n
  induction n with
  | zero => exact ⟨fun t ty h => (by simp [Ty.of] at h), fun fs off u h => (by simp [Ty.ofs] at h)⟩
  | succ n ih =>
    obtain ⟨ih1, ih2⟩ := ih
    refine ⟨fun t ty h m l hs => ?_, fun fs off u h m l hf hl => ?_⟩
    · cases m with
      | zero => cases hs
      | succ m =>
        simp only [Ty.of] at h
        split at h
        · rename_i hu
          cases h
          simp only [Shp, hu] at hs
          obtain ⟨b, rfl⟩ := hs
          exact ⟨b, rfl, trivial⟩
        · rename_i hu
          cases h
          simp only [Shp, hu] at hs
          obtain ⟨k, rfl, hk⟩ := hs
          exact ⟨k, rfl, hk⟩
        · rename_i hu
          cases h
          simp only [Shp, hu] at hs
          obtain ⟨k, rfl, hk⟩ := hs
          exact ⟨k, rfl, hk⟩
        · rename_i e hu
          split at h
          · rename_i u he
            split at h
            · rename_i hc
              cases h
              obtain ⟨xs, rfl, hn, hx⟩ := shp_slice hu hs
              obtain ⟨ys, rfl, hy⟩ := rows_choose (f := u.row) (Q := u.okay) xs (fun x hxm => ih1 e u he m x (hx x hxm))
              refine ⟨ys, ?_, ?_, hy⟩
              · simp only [Ty.row, hc.1.1, List.map_map]
                congr 2
                exact List.map_congr_left fun y _ => wrap_row hc.1.2 _
              · rw [List.length_map] at hn
                exact Nat.le_trans (Nat.le_mul_of_pos_right _ hc.2) hn
            · cases h
          · cases h
        · rename_i fs hu
          obtain ⟨hl, hf⟩ := shp_struct hu hs
          split at h
          · rename_i f hfs
            split at h
            · rename_i u he
              split at h
              · rename_i hc
                cases h
                have := hf f (by rw [hfs]; exact List.mem_cons_self ..)
                rw [hc.1, List.drop_zero, hc.2.1, ← hc.2.2, ← hl, List.take_length] at this
                obtain ⟨x, hx⟩ := ih1 f.type u he m l this
                exact ⟨x, hx⟩
              · cases h
            · cases h
          · split at h
            · rename_i u he
              split at h
              · rename_i hc
                cases h
                obtain ⟨x, hx⟩ := ih2 fs.toList 0 _ he m l hf (by omega)
                exact ⟨x, by rw [List.drop_zero] at hx; exact hx⟩
              · cases h
            · cases h
        · cases h
    · simp only [Ty.ofs] at h
      split at h
      · cases h
      · rename_i f fs
        split at h
        · rename_i v hv
          split at h
          · rename_i hc
            have h0 := hf f (List.mem_cons_self ..)
            rw [hc.1, hc.2] at h0
            obtain ⟨x, hx⟩ := ih1 f.type v hv m _ h0
            split at h
            · cases h
              refine ⟨x, ?_, hx.2⟩
              rw [← hx.1, List.take_of_length_le (by rw [List.length_drop]; omega)]
            · split at h
              · rename_i w hw
                cases h
                simp only [Ty.cells] at hl
                obtain ⟨y, hy⟩ := ih2 _ (off + v.cells) w hw m l (fun g hg => hf g (List.mem_cons_of_mem _ hg)) (by omega)
                refine ⟨(x, y), ?_, hx.2, hy.2⟩
                simp only [Ty.row]
                rw [← hx.1, ← hy.1, ← List.drop_drop, List.take_append_drop]
              · cases h
          · cases h
        · cases h
/-! ## values hold no memory; they fit; they are read back -/
theorem noRefs_append : ∀ (l m : List AV), noRefs l = true → noRefs m = true → noRefs (l ++ m) = true
  | [], m, _, h => h
  | x :: l, m, h, h' => by
    simp only [noRefs, Bool.and_eq_true] at h
    simp only [List.cons_append, noRefs, h.1, noRefs_append l m h.2 h', Bool.and_self]
theorem noRefs_mem : ∀ (l : List AV), (∀ x, x ∈ l → noRef x = true) → noRefs l = true
  | [], _ => rfl
  | x :: l, h => by simp only [noRefs, h x (List.mem_cons_self ..), noRefs_mem l (fun y hy => h y (List.mem_cons_of_mem _ hy)), Bool.and_self]
theorem Ty.wrap_noRef {t : Ty} {l : List AV} (h : noRefs l = true) : noRef (t.wrap l) = true := by
  unfold Ty.wrap
  split
  · simpa only [noRef] using h
  · simpa only [noRef] using h
  · cases l with
    | nil => rfl
    | cons x l => simp only [noRefs, Bool.and_eq_true] at h; exact h.1
theorem Ty.row_noRef : ∀ (t : Ty) (x : t.I), noRefs (t.row x) = true
  | .int _, _ => rfl
  | .bool, _ => rfl
  | .str, _ => rfl
  | .slice t, xs => by
    have : noRefs ((show List t.I from xs).map fun x => t.wrap (t.row x)) = true := noRefs_mem _ fun y hy => by
      obtain ⟨x, _, rfl⟩ := List.mem_map.1 hy
      exact Ty.wrap_noRef (Ty.row_noRef t x)
    simp only [Ty.row, noRefs, noRef, this, Bool.and_self]
  | .pair a b, (x, y) => by simp only [Ty.row]; exact noRefs_append _ _ (Ty.row_noRef a x) (Ty.row_noRef b y)
  | .one a, x => by simp only [Ty.row]; exact Ty.row_noRef a x
theorem Ty.elem_noRef (t : Ty) (x : t.I) : noRef (t.elem x) = true := Ty.wrap_noRef (Ty.row_noRef t x)
/-! ## renamed, it is what it was -/
mutual
theorem ren_noRef (κ : Nat → Nat) : ∀ v : AV, noRef v = true → ren κ v = v := by
  intro v h
  cases v with
  | fp l off => simp only [noRef] at h; simp only [ren, rens_noRef κ l h]
  | lst sz l tl =>
    simp only [noRef, Bool.and_eq_true] at h
    simp only [ren, rens_noRef κ l h.1]
    cases tl with
    | own t => exact absurd h.2 (by simp)
    | clip => rfl
    | open_ => rfl
  | clo f l m => simp only [noRef, Bool.and_eq_true] at h; simp only [ren, rens_noRef κ l h.1, rens_noRef κ m h.2]
  | agg l => simp only [noRef] at h; simp only [ren, rens_noRef κ l h]
  | tup l => simp only [noRef] at h; simp only [ren, rens_noRef κ l h]
  | ptr | eptr | sl | vsl | map | fsl => simp only [noRef] at h; cases h
  | _ => rfl
theorem rens_noRef (κ : Nat → Nat) : ∀ l : List AV, noRefs l = true → rens κ l = l := by
  intro l h
  match l with
  | [] => rfl
  | x :: xs =>
    simp only [noRefs, Bool.and_eq_true] at h
    simp only [rens, ren_noRef κ x h.1, rens_noRef κ xs h.2]
end
theorem Ty.row_ren (κ : Nat → Nat) (t : Ty) (x : t.I) : rens κ (t.row x) = t.row x := rens_noRef κ _ (t.row_noRef x)
theorem Ty.elem_ren (κ : Nat → Nat) (t : Ty) (x : t.I) : ren κ (t.elem x) = t.elem x := ren_noRef κ _ (t.elem_noRef x)
/-- whether it fits is a matter of its type alone. -/
def Ty.zero : (t : Ty) → t.I
  | .int _ => (0 : Int)
  | .bool => false
  | .str => ByteArray.empty
  | .slice t => ([] : List t.I)
  | .pair a b => (a.zero, b.zero)
  | .one a => a.zero
theorem getD_app_l {α : Type} (l m : List α) (j : Nat) (d : α) (h : j < l.length) : (l ++ m).getD j d = l.getD j d := by
  rw [List.getD_eq_getElem?_getD, List.getD_eq_getElem?_getD, List.getElem?_append_left h]
theorem getD_app_r {α : Type} (l m : List α) (j : Nat) (d : α) (h : l.length ≤ j) : (l ++ m).getD j d = m.getD (j - l.length) d := by
  rw [List.getD_eq_getElem?_getD, List.getD_eq_getElem?_getD, List.getElem?_append_right h]
def Likes (a b : AV) : Prop := ∀ P t, fits1 P t a = fits1 P t b
theorem Ty.row_likes : ∀ (t : Ty) (x y : t.I) (j : Nat), Likes ((t.row x).getD j undef) ((t.row y).getD j undef)
  | .int k, x, y, 0 => fun P t => by simp only [Ty.row, List.getD_cons_zero, fits1]
  | .bool, x, y, 0 => fun P t => by simp only [Ty.row, List.getD_cons_zero, fits1]
  | .str, x, y, 0 => fun P t => by simp only [Ty.row, List.getD_cons_zero, fits1]
  | .slice _, x, y, 0 => fun P t => by simp only [Ty.row, List.getD_cons_zero, fits1]
  | .int k, x, y, j + 1 => fun P t => by simp only [Ty.row, List.getD_cons_succ, List.getD_nil]
  | .bool, x, y, j + 1 => fun P t => by simp only [Ty.row, List.getD_cons_succ, List.getD_nil]
  | .str, x, y, j + 1 => fun P t => by simp only [Ty.row, List.getD_cons_succ, List.getD_nil]
  | .slice _, x, y, j + 1 => fun P t => by simp only [Ty.row, List.getD_cons_succ, List.getD_nil]
  | .pair a b, (x1, x2), (y1, y2), j => by
    simp only [Ty.row]
    by_cases hj : j < a.cells
    · rw [getD_app_l _ _ _ _ (by rw [Ty.row_length]; exact hj), getD_app_l _ _ _ _ (by rw [Ty.row_length]; exact hj)]
      exact Ty.row_likes a x1 y1 j
    · rw [getD_app_r _ _ _ _ (by rw [Ty.row_length]; omega), getD_app_r _ _ _ _ (by rw [Ty.row_length]; omega), Ty.row_length, Ty.row_length]
      exact Ty.row_likes b x2 y2 _
  | .one a, x, y, j => by simp only [Ty.row]; exact Ty.row_likes a x y j
theorem fitss_likes {P : Program} {cs ds : List AV} (h : ∀ j, Likes (cs.getD j undef) (ds.getD j undef)) : ∀ (ts : List TypeId) (k : Nat), fitss P cs k ts = fitss P ds k ts
  | [], _ => rfl
  | t :: ts, k => by simp only [fitss, h k P t, fitss_likes h ts (k + 1)]
theorem Ty.elem_cells : ∀ (t : Ty) (x : t.I), (t.elem x).cells = t.row x
  | .int _, _ => rfl
  | .bool, _ => rfl
  | .str, _ => rfl
  | .slice _, _ => rfl
  | .pair _ _, _ => rfl
  | .one _, _ => rfl
theorem Ty.fits_any {P : Program} {e : TypeId} (t : Ty) (x : t.I) (h : fitsC P e (t.elem t.zero) = true) : fitsC P e (t.elem x) = true := by
  simp only [fitsC, Ty.elem_cells, Ty.row_length] at h ⊢
  rw [fitss_likes (Ty.row_likes t x t.zero)]
  exact h
/-- the elements of a row of values. -/
theorem Ty.elem_get (t : Ty) (xs : List t.I) (j : Nat) (d : AV) : (xs.map t.elem).getD j d = (xs[j]?.map t.elem).getD d := by
  rw [List.getD_eq_getElem?_getD, List.getElem?_map]
end Go.Proofs.YtcocmlmligjjcaaGreatDoor.AM

/- Contracts from outside: what was proved of a call in a text of its own (by print or by hand), as a contract of the machine. -/
namespace Go.Proofs.YtcocmlmligjjcaaGreatDoor.AM
set_option linter.unusedVariables false
set_option linter.unusedSimpArgs false
set_option linter.unusedSectionVars false

/-- a value of which there is one reading, whatever the memory. -/
def Pin (x : Value) (y : AV) : Prop := ∀ (F : Area) (ρ : Rho) (w : World) (v : Value), CR F ρ w v y → v = x
theorem Pin.of {x : Value} {y : AV} (h : y.toV = some x) : Pin x y := fun F ρ w v hc => toV_eq h hc
theorem Pin.bool (b : Bool) : Pin (.bool b) (.bool b) := .of rfl
theorem Pin.int (k : IntKind) (n : Int) : Pin (.int k n) (.int k n) := .of rfl
theorem Pin.str (s : ByteArray) : Pin (.string s) (.str s) := .of rfl
/-- rows. -/
inductive Pins : List Value → List AV → Prop
  | nil : Pins [] []
  | cons {x : Value} {y : AV} {xs : List Value} {ys : List AV} (h : Pin x y) (t : Pins xs ys) : Pins (x :: xs) (y :: ys)
theorem Pins.eq {F : Area} {ρ : Rho} {w : World} {xs : List Value} {ys : List AV} (h : Pins xs ys) : ∀ {vs : List Value}, vs.length = ys.length → (∀ (j : Nat) (v : Value) (y : AV), vs[j]? = some v → ys[j]? = some y → CR F ρ w v y) → vs = xs := by
  induction h with
  | nil => intro vs hl _; exact List.eq_nil_of_length_eq_zero hl
  | cons h t ih =>
    intro vs hl hc
    match vs, hl with
    | v :: vs, hl =>
      rw [h _ _ _ _ (hc 0 v _ rfl rfl), ih (by simpa using hl) (fun j v y hv hy => hc (j + 1) v y hv hy)]
theorem Pin.agg {xs : List Value} {ys : List AV} (h : Pins xs ys) : Pin (.agg xs.toArray) (.agg ys) := by
  intro F ρ w v hc
  cases hc with
  | @agg cs _ hn vs h1 h2 =>
    have : cs.toList = xs := h.eq (F := F) (ρ := ρ) (w := w) (by simpa using hn) (fun j v y hv hy => by
      have := h1 j y hy
      rw [Array.getElem?_toList] at hv
      rw [hv] at this; cases this; exact h2 j y hy)
    rw [← this]
/-- a call from outside, that makes but memory of its own and answers with a value that holds none. -/
theorem Con.of_calls {E : Env} {f : FuncId} {args : List AV} {us : List Value} (hp : Pins us args) {v : Value} {r : AV} (hr : ∀ F ρ w, CR F ρ w v r)
    (hen : ∀ W, (callFunc f us.toArray).run E.P W = .ok (.enter f us.toArray) W)
    (hc : ∀ w, Calls E.P f us.toArray w fun e w' => e = .returned v ∧ RowKit.Below w.heap.size w w') (h : H) : Con E f args h r h := by
  intro A ρ w vs hw hargs
  have hvs : vs = us.toArray := by
    have := hp.eq hargs.1 hargs.2
    rw [← this]
  subst hvs
  refine ⟨hen, (hc w).mono fun e w' ⟨he, hb⟩ => ⟨v, ρ, he, ?_, ?_, hr _ _ _⟩⟩
  · exact ⟨fun _ _ h => h, fun _ _ h => .inl h, fun _ _ _ h => .inl h, ⟨hb.os, hb.tape, hb.output⟩, hb.size, fun B cs e fz hB => by
      have hlt : B < w.heap.size := by
        rcases Nat.lt_or_ge B w.heap.size with h | h
        · exact h
        · rw [Array.getElem?_eq_none h] at hB; cases hB
      exact ⟨cs, fz, by rw [hb.block B hlt]; exact hB, rfl, fun off _ _ => rfl⟩, fun B hB _ => hb.block B hB⟩
  · have hk : Keeps (Forb A ρ (view h)) w (Forb A ρ (view h)) w' := fun B cs e fz hB => by
      have hlt : B < w.heap.size := by
        rcases Nat.lt_or_ge B w.heap.size with h | h
        · exact h
        · rw [Array.getElem?_eq_none h] at hB; cases hB
      exact ⟨cs, fz, by rw [hb.block B hlt]; exact hB, rfl, fun off _ hf => ⟨rfl, hf⟩⟩
    refine ⟨hw.dom, fun b x hbx hxh => ?_, hw.hole, hw.sep, fun B off ha => ⟨Nat.lt_of_lt_of_le (hw.avo B off ha).1 hb.size, (hw.avo B off ha).2⟩, fun i cs hi => (hw.glob i cs hi).mono (fun _ _ h => h) hk⟩
    obtain ⟨B, k, k1, k2, k3⟩ := hw.blk b x hbx hxh
    exact ⟨B, k, k1, Nat.lt_of_lt_of_le k2 hb.size, k3.mono (fun _ _ h => h) hk (hb.block B k2)⟩
end Go.Proofs.YtcocmlmligjjcaaGreatDoor.AM

/- A piece of code that is known from ONE state: as a Known, for the tree of the code round it. -/
namespace Go.Proofs.YtcocmlmligjjcaaGreatDoor.AM
set_option linter.unusedVariables false
set_option linter.unusedSimpArgs false
set_option linter.unusedSectionVars false

open Classical in
/-- are these the values, and is this the memory? -/
noncomputable def askS (vs ws : List AV) (h h0 : H) : Bool := decide (vs = ws ∧ h = h0)
theorem askS_self (vs : List AV) (h : H) : askS vs vs h h = true := by simp [askS]
theorem askS_eq {vs ws : List AV} {h h0 : H} (e : askS vs ws h h0 = true) : vs = ws ∧ h = h0 := by simpa [askS] using e
/-- what is known at a place, from the state of some slots. -/
noncomputable def kAt (p : List Nat) (sl : List (Nat × AV)) (h0 : H) (x : X) (sl' : List (Nat × AV)) (h' : H) : Known := fun q =>
  if q = p then some (fun τ h => .br (askS (sl.map fun s => τ s.1) (sl.map (·.2)) h h0) (.leaf (x, frm sl', h')) .fail) else none
theorem brf_ok' {α : Type} {b : Bool} {t : T α} {r : α} (h : (T.br b t .fail).run = .ok r) : b = true ∧ t.run = .ok r := brf_ok h
theorem map_eq_mem {α β : Type} {f g : α → β} : ∀ {l : List α}, l.map f = l.map g → ∀ x, x ∈ l → f x = g x
  | [], _, x, h => by cases h
  | a :: l, h, x, hx => by
    simp only [List.map_cons, List.cons.injEq] at h
    rcases List.mem_cons.1 hx with rfl | hx
    · exact h.1
    · exact map_eq_mem h.2 x hx
theorem kAt_ok {E : Env} {N : Nat} {hb : H} {b : Code} {p : List Nat} {sl : List (Nat × AV)} {h0 : H} {x : X} {sl' : List (Nat × AV)} {h' : H} (ht : Tri E N hb (sub b p) (frm sl) h0 x (frm sl') h') : KOK E N hb b (kAt p sl h0 x sl' h') := by
  intro q k hk τ h y τ' h1 hr
  simp only [kAt] at hk
  split at hk
  · rename_i hq
    subst hq
    cases hk
    dsimp only at hr
    obtain ⟨hc, hr⟩ := brf_ok hr
    cases hr
    obtain ⟨h1, rfl⟩ := askS_eq hc
    exact .wk (Wk.fewer fun s hs => map_eq_mem h1 s hs) ht .refl
  · cases hk
end Go.Proofs.YtcocmlmligjjcaaGreatDoor.AM

/- Calls that are known at given arguments, as the calls of a tree. -/
namespace Go.Proofs.YtcocmlmligjjcaaGreatDoor.AM
set_option linter.unusedVariables false
set_option linter.unusedSimpArgs false
set_option linter.unusedSectionVars false

/-- a list's token dropped, on top alone (so that the lists' elements are left as they are written). -/
def drop1 : AV → AV
  | .lst sz l _ => .lst sz l .open_
  | v => v
theorem Les.drop1 : ∀ l : List AV, Les l (l.map AM.drop1)
  | [] => .nil
  | x :: l => by
    refine .cons ?_ (Les.drop1 l)
    cases x with
    | lst sz l tl => exact Le.open_
    | _ => exact Le.refl _
/-- calls known at given arguments (their tokens dropped), in whatever memory. -/
noncomputable def callsAt (cs : List (FuncId × List AV × AV)) : FuncId → List AV → H → T (AV × H) := fun f args h => match cs.find? (fun c => c.1 == f) with
  | some c => .br (askS (args.map drop1) c.2.1 [] []) (.leaf (c.2.2, h)) .fail
  | none => .fail
theorem callsAt_ok {X : SX} {cs : List (FuncId × List AV × AV)} (hx : X.call = callsAt cs) (hcs : ∀ c, c ∈ cs → ∀ h, Con X.E c.1 c.2.1 h c.2.2 h) : CallOK X.E X.calls := by
  intro f args h r h' hc
  have hc' : (callsAt cs f args h).run = .ok (r, h') := by rw [← hx]; exact hc
  show Con X.E f args h r h'
  unfold callsAt at hc'
  split at hc'
  · rename_i c hf
    obtain ⟨hq, hr⟩ := brf_ok hc'
    cases hr
    obtain ⟨h1, _⟩ := askS_eq hq
    have hid : c.1 = f := by simpa using List.find?_some hf
    have := hcs c (List.mem_of_find?_eq_some hf) h
    rw [hid, ← h1] at this
    exact this.args (Les.drop1 args)
  · cases hc'
end Go.Proofs.YtcocmlmligjjcaaGreatDoor.AM

/- A call that answers with a list of its own: its token dropped, as a contract in whatever memory. -/
namespace Go.Proofs.YtcocmlmligjjcaaGreatDoor.AM
set_option linter.unusedVariables false
set_option linter.unusedSimpArgs false
set_option linter.unusedSectionVars false

theorem Con.based {E : Env} (hG : ∀ i cs, E.G i = some cs → noRefs cs = true) {f : FuncId} {args : List AV} {r : AV} {h' : H} (hc : Con E f args [] r h') (hn : noRefs args = true) {r' : AV} (hl : Le r r') (hb : noRef r' = true) (h : H) : Con E f args h r' h := by
  intro A ρ w vs hr hargs
  have hown : ∀ (ρ1 : Rho) B off, ¬ Own ρ1 (view []) B off := fun ρ1 B off ⟨b, k, y, _, hy, _⟩ => by simp [view] at hy
  have hF : Forb (Forb A ρ (view h)) rho0 (view []) = Forb A ρ (view h) := funext fun B => funext fun off => propext ⟨fun hh => hh.resolve_left (hown _ B off), .inr⟩
  have hr' : HR E.G (Forb A ρ (view h)) rho0 w (view []) := by
    refine ⟨fun b _ => rfl, fun b x hb _ => (by simp [view] at hb), fun b hb => (by simp [view] at hb), fun b b' B k k' x x' h => (by cases h), fun B off ha => ⟨?_, hown _ B off⟩, fun i cs hi => ?_⟩
    · rcases ha with ⟨b, k, y, h1, _⟩ | ha
      · exact hr.lt h1
      · exact (hr.avo B off ha).1
    · rw [hF]; exact (hr.glob i cs hi).free rho0 (by simp only [noRef]; exact hG i cs hi)
  obtain ⟨h1, h2⟩ := hc (Forb A ρ (view h)) rho0 w vs hr' (by rw [hF]; exact hargs.free rho0 hn)
  refine ⟨h1, h2.mono fun e w' ⟨v, ρ', he, hx, _, hcr⟩ => ⟨v, ρ, he, ?_, ?_, ?_⟩⟩
  · exact ⟨fun _ _ h => h, fun _ _ h => .inl h, fun _ _ _ h => .inl h, hx.st, hx.size, fun B cs e fz hb => by
      obtain ⟨cs', fz', k1, k2, k3⟩ := hx.keep B cs e fz hb
      exact ⟨cs', fz', k1, k2, fun off ho _ => k3 off ho (hown _ B off)⟩, fun B hB _ => hx.keepo B hB (fun off => hown _ B off)⟩
  · have hk : Keeps (Forb A ρ (view h)) w (Forb A ρ (view h)) w' := fun B cs e fz hb => by
      obtain ⟨cs', fz', k1, k2, k3⟩ := hx.keep B cs e fz hb
      exact ⟨cs', fz', k1, k2, fun off ho hf => ⟨k3 off ho (hown _ B off), hf⟩⟩
    refine ⟨hr.dom, fun b x hb hxh => ?_, hr.hole, hr.sep, fun B off ha => ⟨Nat.lt_of_lt_of_le (hr.avo B off ha).1 hx.size, (hr.avo B off ha).2⟩, fun i cs hi => (hr.glob i cs hi).mono (fun _ _ h => h) hk⟩
    obtain ⟨B, k, k1, k2, k3⟩ := hr.blk b x hb hxh
    exact ⟨B, k, k1, Nat.lt_of_lt_of_le k2 hx.size, k3.mono (fun _ _ h => h) hk (hx.keepo B k2 (fun off => hown _ B off))⟩
  · have hk : Keeps (Forb (Forb A ρ (view h)) ρ' (view h')) w' (Forb A ρ (view h)) w' := fun B cs e fz hb => ⟨cs, fz, hb, rfl, fun off _ hf => ⟨rfl, fun hq => hf (.inr hq)⟩⟩
    exact ((hl _ _ _ _ hcr).free ρ hb).mono (fun _ _ h => h) hk
end Go.Proofs.YtcocmlmligjjcaaGreatDoor.AM

/- Helpers for functions with lists: walking down a tree, loops as folds, lists of typed elements, calls by what their arguments are. -/
namespace Go.Proofs.YtcocmlmligjjcaaGreatDoor.AM
set_option linter.unusedVariables false
set_option linter.unusedSimpArgs false
set_option linter.unusedSectionVars false

/-! ## down a tree -/
theorem bT {α : Type} {b : Bool} {t f : T α} {x : R α} (hb : b = true) (ht : t.run = x) : (T.br b t f).run = x := by subst hb; exact ht
theorem bF {α : Type} {b : Bool} {t f : T α} {x : R α} (hb : b = false) (ht : f.run = x) : (T.br b t f).run = x := by subst hb; exact ht
theorem bS {α : Type} {vs ws : List AV} {h : H} {t f : T α} {x : R α} (ht : t.run = x) (hv : vs = ws := by rfl) : (T.br (askS vs ws h h) t f).run = x := by
  subst hv; rw [askS_self]; exact ht
/-- does it hold? -/
noncomputable def ask (p : Prop) : Bool := by
  classical exact decide p
theorem ask_true {p : Prop} (h : p) : ask p = true := by simp [ask, h]
theorem ask_of {p : Prop} (h : ask p = true) : p := by simpa [ask] using h
theorem bQ {α : Type} {p : Prop} {t f : T α} {x : R α} (hp : p) (ht : t.run = x) : (T.br (ask p) t f).run = x := bT (ask_true hp) ht
/-! ## calls by what their arguments are -/
/-- are these such arguments? -/
noncomputable def askQ (p : List AV → Prop) (args : List AV) : Bool := ask (p args)
theorem bA {α : Type} {p : List AV → Prop} {args : List AV} {t f : T α} {x : R α} (ht : t.run = x) (hp : p args) : (T.br (askQ p args) t f).run = x := bT (ask_true hp) ht
structure Cl where
  f : FuncId
  ok : List AV → Prop
  res : List AV → AV
noncomputable def callsBy (cs : List Cl) : FuncId → List AV → H → T (AV × H) := fun f args h => match cs.find? (fun c => c.f == f) with
  | some c => .br (askQ c.ok (args.map drop1)) (.leaf (c.res (args.map drop1), h)) .fail
  | none => .fail
theorem callsBy_ok {X : SX} {cs : List Cl} (hx : X.call = callsBy cs) (hcs : ∀ c, c ∈ cs → ∀ args, c.ok args → ∀ h, Con X.E c.f args h (c.res args) h) : CallOK X.E X.calls := by
  intro f args h r h' hc
  have hc' : (callsBy cs f args h).run = .ok (r, h') := by rw [← hx]; exact hc
  show Con X.E f args h r h'
  unfold callsBy at hc'
  split at hc'
  · rename_i c hf
    obtain ⟨hq, hr⟩ := brf_ok hc'
    cases hr
    have hid : c.f = f := by simpa using List.find?_some hf
    have := hcs c (List.mem_of_find?_eq_some hf) _ (ask_of hq) h
    rw [hid] at this
    exact this.args (Les.drop1 args)
  · cases hc'
theorem noCalls {X : SX} (h : ∀ f args m, X.call f args m = .fail) : CallOK X.E X.calls := fun f args m r m' hc => by
  have : X.calls f args m = (X.call f args m).run := rfl
  rw [this, h] at hc; cases hc
/-! ## a function whose answer holds no memory, from its tree -/
theorem Con.pureF {X : SX} (g : Ground X.E) (hG : ∀ i cs, X.E.G i = some cs → noRefs cs = true) (hcall : CallOK X.E X.calls) {f : FuncId} {fn : Func} (hfn : X.E.P.funcs[f]? = some fn) {c : Code} (hb : fn.body = some c) (hname : (fn.name == "runtime.NumGoroutine") = false) {args : List AV} {K : Known}
    (hK : KOK X.E (max fn.ntmps args.length) [] c K) (hn : noRefs args = true) {v r : AV} {h' : H} (hr : (runF X K fn c args []).run = .ok (v, h')) (hl : Le v r) (hr' : noRef r = true) (h : H) : Con X.E f args h r h :=
  Con.based hG (Con.of_run g hcall hfn hb hname hK hr) hn hl hr' h
/-- what a function answers, without its memory. -/
noncomputable def runV (X : SX) (K : Known) (fn : Func) (c : Code) (args : List AV) : T AV := (runF X K fn c args []).bind fun r => .leaf r.1
theorem Con.pureV {X : SX} (g : Ground X.E) (hG : ∀ i cs, X.E.G i = some cs → noRefs cs = true) (hcall : CallOK X.E X.calls) {f : FuncId} {fn : Func} (hfn : X.E.P.funcs[f]? = some fn) {c : Code} (hb : fn.body = some c) (hname : (fn.name == "runtime.NumGoroutine") = false) {args : List AV} {K : Known}
    (hK : KOK X.E (max fn.ntmps args.length) [] c K) (hn : noRefs args = true) {v r : AV} (hr : (runV X K fn c args).run = .ok v) (hl : Le v r) (hr' : noRef r = true) (h : H) : Con X.E f args h r h := by
  obtain ⟨⟨v', h'⟩, h2, h3⟩ := T.bind_ok hr
  cases h3
  exact Con.pureF g hG hcall hfn hb hname hK hn h2 hl hr' h
/-! ## loops as folds -/
/-- d rounds from round j on: what is left of them, or what they stop with. -/
def foldJ {σ ρ : Type} (step : Nat → σ → σ ⊕ ρ) : Nat → Nat → σ → σ ⊕ ρ
  | 0, _, s => .inl s
  | d + 1, j, s => match step j s with
    | .inl s' => foldJ step d (j + 1) s'
    | .inr r => .inr r
theorem rounds_fold {E : Env} {N : Nat} {h0 : H} {c : Code} {σ ρ : Type} {n : Nat} (step : Nat → σ → σ ⊕ ρ) (inv : Nat → σ → Prop) (st : Nat → σ → List (Nat × AV)) (hm : Nat → σ → H) (xs : AM.X) (rt : ρ → List (Nat × AV)) (hr : ρ → H)
    (xo : AM.X) (out : σ → List (Nat × AV)) (ho : σ → H)
    (hgo : ∀ j s, j < n → inv j s → match step j s with
      | .inl s' => Tri E N h0 c (frm (st j s)) (hm j s) .normal (frm (st (j + 1) s')) (hm (j + 1) s') ∧ inv (j + 1) s'
      | .inr r => Tri E N h0 c (frm (st j s)) (hm j s) xs (frm (rt r)) (hr r))
    (hout : ∀ s, inv n s → Tri E N h0 c (frm (st n s)) (hm n s) xo (frm (out s)) (ho s)) (hxs : xs ≠ .normal) (hxo : xo ≠ .normal) :
    ∀ (d j : Nat) (s : σ), j + d = n → inv j s → match foldJ step d j s with
      | .inl s' => TRounds E N h0 c (frm (st j s)) (hm j s) xo (frm (out s')) (ho s') ∧ inv n s'
      | .inr r => TRounds E N h0 c (frm (st j s)) (hm j s) xs (frm (rt r)) (hr r)
  | 0, j, s, hd, hi => by
    obtain rfl : j = n := by omega
    exact ⟨.done (hout s hi) hxo, hi⟩
  | d + 1, j, s, hd, hi => by
    have h1 := hgo j s (by omega) hi
    simp only [foldJ]
    cases he : step j s with
    | inr r => rw [he] at h1; exact .done h1 hxs
    | inl s' =>
      rw [he] at h1
      have ih := rounds_fold step inv st hm xs rt hr xo out ho hgo hout hxs hxo d (j + 1) s' (by omega) h1.2
      show match foldJ step d (j + 1) s' with
        | .inl s' => TRounds E N h0 c (frm (st j s)) (hm j s) xo (frm (out s')) (ho s') ∧ inv n s'
        | .inr r => TRounds E N h0 c (frm (st j s)) (hm j s) xs (frm (rt r)) (hr r)
      cases hf : foldJ step d (j + 1) s' with
      | inl s'' => rw [hf] at ih; exact ⟨.more h1.1 ih.1, ih.2⟩
      | inr r => rw [hf] at ih; exact .more h1.1 ih
/-- a loop that goes on to its end, or stops: whatever it reckons. -/
theorem rounds_or {E : Env} {N : Nat} {h0 : H} {c : Code} {σ : Type} {n : Nat} (inv : Nat → σ → Prop) (st : Nat → σ → List (Nat × AV)) (hm : H) (rt : List (Nat × AV)) (id : Nat) (out : σ → List (Nat × AV))
    (hgo : ∀ j s, j < n → inv j s → (∃ s', Tri E N h0 c (frm (st j s)) hm .normal (frm (st (j + 1) s')) hm ∧ inv (j + 1) s') ∨ Tri E N h0 c (frm (st j s)) hm .ret (frm rt) hm)
    (hout : ∀ s, inv n s → Tri E N h0 c (frm (st n s)) hm (.exit id) (frm (out s)) hm) :
    ∀ (d j : Nat) (s : σ), j + d = n → inv j s → (∃ s', TRounds E N h0 c (frm (st j s)) hm (.exit id) (frm (out s')) hm ∧ inv n s') ∨ TRounds E N h0 c (frm (st j s)) hm .ret (frm rt) hm
  | 0, j, s, hd, hi => by
    obtain rfl : j = n := by omega
    exact .inl ⟨s, .done (hout s hi) nofun, hi⟩
  | d + 1, j, s, hd, hi => by
    rcases hgo j s (by omega) hi with ⟨s', h1, h2⟩ | h1
    · rcases rounds_or inv st hm rt id out hgo hout d (j + 1) s' (by omega) h2 with ⟨s'', h3, h4⟩ | h3
      · exact .inl ⟨s'', .more h1 h3, h4⟩
      · exact .inr (.more h1 h3)
    · exact .inr (.done h1 nofun)
/-- a round, seen by more slots than are wanted. -/
theorem Tri.seen {X : SX} (g : Ground X.E) (hcall : CallOK X.E X.calls) {K : Known} {N : Nat} {h0 : H} {body : Code} (hK : KOK X.E N h0 body K) {c : Code} {p : List Nat} (hp : sub body p = c) {τ : Fr} {h : H} {L : List Nat} {x : AM.X} {vs : List AV} {h' : H}
    (hr : (obsK X K N c p τ h L).run = .ok (x, vs, h')) {sl : List (Nat × AV)} (hs : ∀ q, q ∈ sl → AM.frm (L.zip vs) q.1 = q.2) : Tri X.E N h0 c τ h x (AM.frm sl) h' :=
  .wk .refl (Tri.of_obs g hcall hK hp hr) (Wk.fewer hs)
/-- a loop that looks for the first place at which two lists differ. -/
theorem eq_rounds {E : Env} {N : Nat} {h0 : H} {c : Code} {α : Type} {L M : List α} {z : α} {st : Nat → List (Nat × AV)} {hm : H} {rt : List (Nat × AV)} {id : Nat} (hlen : M.length = L.length)
    (hgo : ∀ j, j < L.length → L.getD j z = M.getD j z → Tri E N h0 c (frm (st j)) hm .normal (frm (st (j + 1))) hm)
    (hhit : ∀ j, j < L.length → L.getD j z ≠ M.getD j z → Tri E N h0 c (frm (st j)) hm .ret (frm rt) hm)
    (hout : Tri E N h0 c (frm (st L.length)) hm (.exit id) (frm (st L.length)) hm) :
    (L = M → TRounds E N h0 c (frm (st 0)) hm (.exit id) (frm (st L.length)) hm) ∧ (L ≠ M → TRounds E N h0 c (frm (st 0)) hm .ret (frm rt) hm) := by
  have key : ∀ (d j : Nat), j + d = L.length → (L.drop j = M.drop j → TRounds E N h0 c (frm (st j)) hm (.exit id) (frm (st L.length)) hm) ∧ (L.drop j ≠ M.drop j → TRounds E N h0 c (frm (st j)) hm .ret (frm rt) hm) := by
    intro d
    induction d with
    | zero =>
      intro j hj
      obtain rfl : j = L.length := by omega
      refine ⟨fun _ => .done hout nofun, fun h => ?_⟩
      rw [List.drop_length, ← hlen, List.drop_length] at h
      exact absurd rfl h
    | succ d ih =>
      intro j hj
      have hjl : j < L.length := by omega
      have hjm : j < M.length := by omega
      have e1 : L.drop j = L.getD j z :: L.drop (j + 1) := by rw [List.drop_eq_getElem_cons hjl, List.getD_eq_getElem?_getD, List.getElem?_eq_getElem hjl]; rfl
      have e2 : M.drop j = M.getD j z :: M.drop (j + 1) := by rw [List.drop_eq_getElem_cons hjm, List.getD_eq_getElem?_getD, List.getElem?_eq_getElem hjm]; rfl
      obtain ⟨i1, i2⟩ := ih (j + 1) (by omega)
      rw [e1, e2]
      by_cases he : L.getD j z = M.getD j z
      · have h1 := hgo j hjl he
        refine ⟨fun h => .more h1 (i1 (List.cons.inj h).2), fun h => .more h1 (i2 fun h' => h (by rw [he, h']))⟩
      · have h1 := hhit j hjl he
        exact ⟨fun h => absurd (List.cons.inj h).1 he, fun _ => .done h1 nofun⟩
  exact key L.length 0 (by omega)
theorem ba_beq_iff (a b : ByteArray) : (a == b) = true ↔ a = b := by
  obtain ⟨a⟩ := a; obtain ⟨b⟩ := b
  show (a == b) = true ↔ _
  rw [beq_iff_eq]; exact ⟨fun h => by rw [h], fun h => by cases h; rfl⟩
theorem ask_iff {b : Bool} {p : Prop} (h : b = true ↔ p) : b = ask p := by
  by_cases hp : p
  · rw [ask_true hp, h.2 hp]
  · have : ask p = false := by simp [ask, hp]
    rw [this]; cases b with
    | false => rfl
    | true => exact absurd (h.1 rfl) hp
theorem ask_false {p : Prop} (h : ¬ p) : ask p = false := by simp [ask, h]
/-- the same where no memory is kept: what the round made is dropped. -/
theorem Tri.seen0 {X : SX} (g : Ground X.E) (hG : ∀ i cs, X.E.G i = some cs → noRefs cs = true) (hcall : CallOK X.E X.calls) {K : Known} {N : Nat} {body : Code} (hK : KOK X.E N [] body K) {c : Code} {p : List Nat} (hp : sub body p = c) {τ : Fr} {h : H} {L : List Nat} {x : AM.X} {vs : List AV} {h' : H}
    (hr : (obsK X K N c p τ h L).run = .ok (x, vs, h')) {sl : List (Nat × AV)} (hs : ∀ q, q ∈ sl → AM.frm (L.zip vs) q.1 = q.2 ∧ noRef q.2 = true ∧ isFsl q.2 = false) : Tri X.E N [] c τ h x (AM.frm sl) [] := by
  refine .wk .refl (Tri.of_obs g hcall hK hp hr) ((Wk.fewer fun q hq => (hs q hq).1).trans ?_)
  refine Wk.cutF (sl := sl) (h' := []) (extra := h') hG (by simp) (fun x hx => by cases hx) (fun x hx => by cases hx) (fun q hq => ⟨ren_noRef _ _ (hs q hq).2.1, (hs q hq).2.2⟩)
/-- pieces known at more than one place. -/
def kTwo (K K' : Known) : Known := fun q => match K q with
  | some k => some k
  | none => K' q
theorem KOK.two {E : Env} {N : Nat} {hb : H} {b : Code} {K K' : Known} (h : KOK E N hb b K) (h' : KOK E N hb b K') : KOK E N hb b (kTwo K K') := by
  intro q k hk
  simp only [kTwo] at hk
  split at hk
  · rename_i k' hk'
    cases hk
    exact h q k hk'
  · exact h' q k hk
/-! ## lists of typed elements -/
def encL (t : Ty) (L : List t.I) : AV := .lst t.cells (L.map t.elem) .open_
theorem encL_noRef (t : Ty) (L : List t.I) : noRef (encL t L) = true := (Ty.slice t).elem_noRef L
theorem getD_elem {t : Ty} {L : List t.I} {j : Nat} (h : j < L.length) (d : AV) : (L.map t.elem).getD j d = t.elem (L.getD j t.zero) := by
  simp [List.getD_eq_getElem?_getD, List.getElem?_eq_getElem h]
theorem wrap64 {n : Int} (h0 : 0 ≤ n) (h1 : n < 9223372036854775808) : IntKind.i64.wrap n = n := by
  have e1 : IntKind.i64.bits = 64 := rfl
  have e2 : IntKind.i64.signed = true := rfl
  simp only [IntKind.wrap, e1, e2]
  have : n % (2 ^ 64 : Int) = n := Int.emod_eq_of_lt h0 (by omega)
  rw [this]
  simp
  intro h; omega
theorem wrap_next {j : Nat} (h : j < 1000000000000000) : IntKind.i64.wrap ((j : Int) + 1) = ((j + 1 : Nat) : Int) := by rw [wrap64 (by omega) (by omega)]; simp
/-- x[i] is in its list, and as its type says. -/
theorem idx_ok {P : Program} {e : TypeId} {t : Ty} {L : List t.I} {j : Nat} (h : j < L.length) (hf : fitsC P e (t.elem t.zero) = true) :
    (decide ((0 : Int) ≤ (j : Int)) && decide ((j : Int) < (((L.map t.elem).length : Nat) : Int)) && fitsC P e ((L.map t.elem).getD (j : Int).toNat undef)) = true := by
  rw [Int.toNat_natCast, getD_elem h, t.fits_any _ hf]
  simp; omega
theorem lt_ok {t : Ty} {L : List t.I} {j : Nat} (h : j < L.length) : decide ((j : Int) < (((L.map t.elem).length : Nat) : Int)) = true := by simp; omega
theorem lt_no {t : Ty} {L : List t.I} : decide (((L.length : Nat) : Int) < (((L.map t.elem).length : Nat) : Int)) = false := by simp
theorem Ty.single {t : Ty} (h : t.isAgg = false) (x : t.I) : ∃ v, t.row x = [v] := by
  cases t with
  | int k => exact ⟨_, rfl⟩
  | bool => exact ⟨_, rfl⟩
  | str => exact ⟨_, rfl⟩
  | slice t => exact ⟨_, rfl⟩
  | pair a b => cases h
  | one a => cases h
theorem Ty.elem_row {t : Ty} {x y : t.I} (h : t.elem x = t.elem y) : t.row x = t.row y := by
  have e := congrArg AV.cells h
  rw [t.elem_cells, t.elem_cells] at e
  exact e
theorem map_inj {α β : Type} {f : α → β} (hf : ∀ x y, f x = f y → x = y) : ∀ {l m : List α}, l.map f = m.map f → l = m
  | [], [], _ => rfl
  | [], y :: m, h => by simp at h
  | x :: l, [], h => by simp at h
  | x :: l, y :: m, h => by
    simp only [List.map_cons, List.cons.injEq] at h
    rw [hf _ _ h.1, map_inj hf h.2]
theorem Ty.row_inj : ∀ (t : Ty) (x y : t.I), t.row x = t.row y → x = y
  | .int k, x, y, h => by cases h; rfl
  | .bool, x, y, h => by cases h; rfl
  | .str, x, y, h => by cases h; rfl
  | .slice t, x, y, h => by
    simp only [Ty.row, List.cons.injEq, AV.lst.injEq, true_and, and_true] at h
    exact map_inj (fun a b hab => Ty.row_inj t a b (Ty.elem_row hab)) h
  | .pair a b, (x1, x2), (y1, y2), h => by
    simp only [Ty.row] at h
    obtain ⟨h1, h2⟩ := List.append_inj h (by rw [a.row_length, a.row_length])
    rw [Ty.row_inj a _ _ h1, Ty.row_inj b _ _ h2]
  | .one a, x, y, h => Ty.row_inj a x y h
theorem Ty.elem_inj {t : Ty} {x y : t.I} (h : t.elem x = t.elem y) : x = y := Ty.row_inj t x y (Ty.elem_row h)
theorem encL_inj {t : Ty} {L M : List t.I} (h : encL t L = encL t M) : L = M := by
  simp only [encL, AV.lst.injEq, true_and, and_true] at h
  exact map_inj (fun _ _ h => Ty.elem_inj h) h
/-! ## calls that tell whether two things are the same -/
noncomputable def eqRes (args : List AV) : AV := .bool (ask (args.getD 0 undef = args.getD 1 undef))
def okLL (t : Ty) (args : List AV) : Prop := ∃ L M : List t.I, args = [encL t L, encL t M] ∧ L.length < 1000000000000000
noncomputable def clLL (f : FuncId) (t : Ty) : Cl := ⟨f, okLL t, eqRes⟩
theorem eqRes_LL {t : Ty} {L M : List t.I} : eqRes [encL t L, encL t M] = .bool (ask (L = M)) := by
  simp only [eqRes, List.getD_cons_zero, List.getD_cons_succ]
  congr 1
  exact (ask_iff ⟨fun h => by have := ask_of h; rw [this], fun h => ask_true (encL_inj h)⟩).symm
theorem clLL_con {E : Env} {f : FuncId} {t : Ty} (hc : ∀ (L M : List t.I), L.length < 1000000000000000 → ∀ h, Con E f [encL t L, encL t M] h (.bool (ask (L = M))) h) : ∀ args, (clLL f t).ok args → ∀ h, Con E (clLL f t).f args h ((clLL f t).res args) h := by
  rintro args ⟨L, M, rfl, hl⟩ h
  show Con E f _ h (eqRes _) h
  rw [eqRes_LL]
  exact hc L M hl h
def okEE (t : Ty) (args : List AV) : Prop := ∃ x y : t.I, args = [t.elem x, t.elem y] ∧ t.okay x
noncomputable def clEE (f : FuncId) (t : Ty) : Cl := ⟨f, okEE t, eqRes⟩
theorem eqRes_EE {t : Ty} {x y : t.I} : eqRes [t.elem x, t.elem y] = .bool (ask (x = y)) := by
  simp only [eqRes, List.getD_cons_zero, List.getD_cons_succ]
  congr 1
  exact (ask_iff ⟨fun h => by have := ask_of h; rw [this], fun h => ask_true (Ty.elem_inj h)⟩).symm
theorem clEE_con {E : Env} {f : FuncId} {t : Ty} (hc : ∀ (x y : t.I), t.okay x → ∀ h, Con E f [t.elem x, t.elem y] h (.bool (ask (x = y))) h) : ∀ args, (clEE f t).ok args → ∀ h, Con E (clEE f t).f args h ((clEE f t).res args) h := by
  rintro args ⟨x, y, rfl, hx⟩ h
  show Con E f _ h (eqRes _) h
  rw [eqRes_EE]
  exact hc x y hx h
theorem noRefs1 (t : Ty) (x : t.I) : noRefs [t.elem x] = true := by simp only [noRefs, Ty.elem_noRef, Bool.and_true]
theorem noRefs2 (t : Ty) (x y : t.I) : noRefs [t.elem x, t.elem y] = true := by simp only [noRefs, Ty.elem_noRef, Bool.and_true]
/-- some truth that a call answers with. -/
noncomputable def someB (E : Env) (f : FuncId) (args : List AV) : Bool := by
  classical exact if h : ∃ b, ∀ h, Con E f args h (.bool b) h then h.choose else false
theorem someB_con {E : Env} {f : FuncId} {args : List AV} (h : ∃ b, ∀ h, Con E f args h (.bool b) h) : ∀ m, Con E f args m (.bool (someB E f args)) m := by
  unfold someB
  rw [dif_pos h]
  exact h.choose_spec
noncomputable def clB (E : Env) (f : FuncId) (ok : List AV → Prop) : Cl := ⟨f, ok, fun args => .bool (someB E f args)⟩
theorem clB_con {E : Env} {f : FuncId} {ok : List AV → Prop} (h : ∀ args, ok args → ∃ b, ∀ h, Con E f args h (.bool b) h) : ∀ args, (clB E f ok).ok args → ∀ h, Con E (clB E f ok).f args h ((clB E f ok).res args) h := fun args ha => someB_con (h args ha)
/-- a call without arguments that answers true. -/
def clK (f : FuncId) : Cl := ⟨f, fun args => args = [], fun _ => .bool true⟩
theorem clK_con {E : Env} {f : FuncId} (hc : ∀ h, Con E f [] h (.bool true) h) : ∀ args, (clK f).ok args → ∀ h, Con E (clK f).f args h ((clK f).res args) h := by
  rintro args rfl h
  exact hc h
/-- one argument of a type. -/
def okE1 (t : Ty) (args : List AV) : Prop := ∃ x : t.I, args = [t.elem x] ∧ t.okay x
theorem ask_LL (t : Ty) (L M : List t.I) : ask (encL t L = encL t M) = ask (L = M) := (ask_iff ⟨fun h => by have := ask_of h; rw [this], fun h => ask_true (encL_inj h)⟩).symm
theorem ask_EE (t : Ty) (x y : t.I) : ask (t.elem x = t.elem y) = ask (x = y) := (ask_iff ⟨fun h => by have := ask_of h; rw [this], fun h => ask_true (Ty.elem_inj h)⟩).symm
theorem ask_dec {α : Type} [DecidableEq α] (a b : α) : ask (a = b) = decide (a = b) := by
  by_cases h : a = b
  · rw [ask_true h, decide_eq_true h]
  · rw [ask_false h, decide_eq_false h]
theorem ask_pair {α β : Type} (a c : α) (b d : β) : ask ((a, b) = (c, d)) = (ask (a = c) && ask (b = d)) := by
  refine (ask_iff ?_).symm
  rw [Bool.and_eq_true]
  exact ⟨fun ⟨h1, h2⟩ => by rw [ask_of h1, ask_of h2], fun h => by cases h; exact ⟨ask_true rfl, ask_true rfl⟩⟩
/-! ## light calls, by what their arguments are -/
noncomputable def lightC (cs : List Cl) : FuncId → List AV → Option AV := fun f args => match cs.find? (fun c => c.f == f) with
  | some c => (match ask (c.ok (args.map drop1)) with
    | true => some (c.res (args.map drop1))
    | false => none)
  | none => none
theorem lightC_ok {E : Env} {cs : List Cl} (hC : E.C = lightC cs) (hcs : ∀ c, c ∈ cs → ∀ args, c.ok args → ∀ h, Con E c.f args h (c.res args) h) (hf : ∀ c, c ∈ cs → ∀ args, noF (c.res args) = true) : COK E := by
  intro f args h r h' hc
  have hc' : (match lightC cs f args with
    | some r => R.ok (thaw h r)
    | none => .no "") = .ok (r, h') := by rw [← hC]; exact hc
  show Con E f args h r h'
  unfold lightC at hc'
  cases hfi : cs.find? (fun c => c.f == f) with
  | none => rw [hfi] at hc'; cases hc'
  | some c =>
    rw [hfi] at hc'
    simp only at hc'
    cases hq : ask (c.ok (args.map drop1)) with
    | false => rw [hq] at hc'; cases hc'
    | true =>
      rw [hq] at hc'
      simp only at hc'
      rw [noF_thaw _ (hf c (List.mem_of_find?_eq_some hfi) _)] at hc'
      cases hc'
      have hid : c.f = f := by simpa using List.find?_some hfi
      have := hcs c (List.mem_of_find?_eq_some hfi) _ (ask_of hq) h
      rw [hid] at this
      exact this.args (Les.drop1 args)
theorem bL {α : Type} {E : Env} {cs : List Cl} {g : FuncId} {vs : List AV} {v : AV} {t f : T α} {x : R α} {c : Cl} (hC : E.C = lightC cs) (hf : cs.find? (fun c => c.f == g) = some c) (hok : c.ok (vs.map drop1)) (hv : c.res (vs.map drop1) = v) (hn : noF v = true) (ht : t.run = x) : (T.br (askL E g vs v) t f).run = x := by
  refine bT ?_ ht
  simp only [askL, decide_eq_true_eq]
  refine ⟨?_, hn⟩
  rw [hC]
  unfold lightC
  rw [hf]
  simp only [ask_true hok, hv]
end Go.Proofs.YtcocmlmligjjcaaGreatDoor.AM

/- Loops that look for the first element of a kind. -/
namespace Go.Proofs.YtcocmlmligjjcaaGreatDoor.AM
set_option linter.unusedVariables false
set_option linter.unusedSimpArgs false
set_option linter.unusedSectionVars false

/-- the first place, d places looked at from j on. -/
noncomputable def firstFrom (p : Nat → Prop) : Nat → Nat → Option Nat
  | 0, _ => none
  | d + 1, j => match ask (p j) with
    | true => some j
    | false => firstFrom p d (j + 1)
/-- the first place below n. -/
noncomputable def firstI (p : Nat → Prop) (n : Nat) : Option Nat := firstFrom p n 0
theorem firstFrom_spec (p : Nat → Prop) : ∀ d j, match firstFrom p d j with
    | some i => j ≤ i ∧ i < j + d ∧ p i ∧ ∀ k, j ≤ k → k < i → ¬ p k
    | none => ∀ k, j ≤ k → k < j + d → ¬ p k
  | 0, j => fun k h1 h2 => absurd h2 (by omega)
  | d + 1, j => by
    simp only [firstFrom]
    cases hq : ask (p j) with
    | true =>
      exact ⟨Nat.le_refl _, by omega, ask_of hq, fun k h1 h2 => absurd h1 (by omega)⟩
    | false =>
      have hn : ¬ p j := fun h => by rw [ask_true h] at hq; cases hq
      have ih := firstFrom_spec p d (j + 1)
      show match firstFrom p d (j + 1) with
        | some i => j ≤ i ∧ i < j + (d + 1) ∧ p i ∧ ∀ k, j ≤ k → k < i → ¬ p k
        | none => ∀ k, j ≤ k → k < j + (d + 1) → ¬ p k
      cases hf : firstFrom p d (j + 1) with
      | some i =>
        rw [hf] at ih
        refine ⟨by omega, by omega, ih.2.2.1, fun k h1 h2 => ?_⟩
        rcases Nat.eq_or_lt_of_le h1 with rfl | h3
        · exact hn
        · exact ih.2.2.2 k h3 h2
      | none =>
        rw [hf] at ih
        intro k h1 h2
        rcases Nat.eq_or_lt_of_le h1 with rfl | h3
        · exact hn
        · exact ih k h3 (by omega)
theorem firstI_some {p : Nat → Prop} {n i : Nat} (h : firstI p n = some i) : i < n ∧ p i ∧ ∀ k, k < i → ¬ p k := by
  have := firstFrom_spec p n 0
  unfold firstI at h
  rw [h] at this
  exact ⟨by omega, this.2.2.1, fun k hk => this.2.2.2 k (Nat.zero_le _) hk⟩
theorem firstI_none {p : Nat → Prop} {n : Nat} (h : firstI p n = none) : ∀ k, k < n → ¬ p k := by
  have := firstFrom_spec p n 0
  unfold firstI at h
  rw [h] at this
  exact fun k hk => this k (Nat.zero_le _) (by omega)
theorem firstFrom_congr {p q : Nat → Prop} : ∀ d j, (∀ k, j ≤ k → k < j + d → (p k ↔ q k)) → firstFrom p d j = firstFrom q d j
  | 0, j, h => rfl
  | d + 1, j, h => by
    have e : ask (p j) = ask (q j) := by rw [propext (h j (Nat.le_refl _) (by omega))]
    simp only [firstFrom, e, firstFrom_congr d (j + 1) (fun k h1 h2 => h k (by omega) (by omega))]
theorem firstI_congr {p q : Nat → Prop} {n : Nat} (h : ∀ k, k < n → (p k ↔ q k)) : firstI p n = firstI q n := firstFrom_congr n 0 fun k _ h2 => h k (by omega)
/-- a place, or -1. -/
def placeOf : Option Nat → Int
  | some i => i
  | none => -1
/-- a loop that looks for the first place: it stops there, or comes to its end. -/
theorem find_rounds {E : Env} {N : Nat} {h0 : H} {c : Code} {p : Nat → Prop} {n : Nat} {st : Nat → List (Nat × AV)} {hm : H} {rt : Nat → List (Nat × AV)} {id : Nat}
    (hgo : ∀ j, j < n → ¬ p j → Tri E N h0 c (frm (st j)) hm .normal (frm (st (j + 1))) hm)
    (hhit : ∀ j, j < n → p j → Tri E N h0 c (frm (st j)) hm .ret (frm (rt j)) hm)
    (hout : Tri E N h0 c (frm (st n)) hm (.exit id) (frm (st n)) hm) :
    match firstI p n with
    | some i => TRounds E N h0 c (frm (st 0)) hm .ret (frm (rt i)) hm
    | none => TRounds E N h0 c (frm (st 0)) hm (.exit id) (frm (st n)) hm := by
  have key : ∀ (d j : Nat), j + d = n → match firstFrom p d j with
      | some i => TRounds E N h0 c (frm (st j)) hm .ret (frm (rt i)) hm
      | none => TRounds E N h0 c (frm (st j)) hm (.exit id) (frm (st n)) hm := by
    intro d
    induction d with
    | zero =>
      intro j hj
      obtain rfl : j = n := by omega
      exact .done hout nofun
    | succ d ih =>
      intro j hj
      simp only [firstFrom]
      cases hq : ask (p j) with
      | true => exact .done (hhit j (by omega) (ask_of hq)) nofun
      | false =>
        have hn : ¬ p j := fun h => by rw [ask_true h] at hq; cases hq
        have h1 := ih (j + 1) (by omega)
        show match firstFrom p d (j + 1) with
          | some i => TRounds E N h0 c (frm (st j)) hm .ret (frm (rt i)) hm
          | none => TRounds E N h0 c (frm (st j)) hm (.exit id) (frm (st n)) hm
        cases hf : firstFrom p d (j + 1) with
        | some i => rw [hf] at h1; exact .more (hgo j (by omega) hn) h1
        | none => rw [hf] at h1; exact .more (hgo j (by omega) hn) h1
  exact key n 0 (by omega)
/-! ## closures that look into memory -/
/-- calls that are run on the spot. -/
noncomputable def callsRun (rs : List (FuncId × SX × Func × Code)) : FuncId → List AV → H → T (AV × H) := fun f args h => match rs.find? (fun r => r.1 == f) with
  | some r => runF r.2.1 (fun _ => none) r.2.2.1 r.2.2.2 args h
  | none => .fail
theorem callsRun_ok {X : SX} {rs : List (FuncId × SX × Func × Code)} (hx : X.call = callsRun rs)
    (hrs : ∀ r, r ∈ rs → Ground r.2.1.E ∧ CallOK r.2.1.E r.2.1.calls ∧ r.2.1.E = X.E ∧ X.E.P.funcs[r.1]? = some r.2.2.1 ∧ r.2.2.1.body = some r.2.2.2 ∧ (r.2.2.1.name == "runtime.NumGoroutine") = false) : CallOK X.E X.calls := by
  intro f args h r h' hc
  have hc' : (callsRun rs f args h).run = .ok (r, h') := by rw [← hx]; exact hc
  show Con X.E f args h r h'
  unfold callsRun at hc'
  split at hc'
  · rename_i q hf
    obtain ⟨k1, k2, k3, k4, k5, k6⟩ := hrs q (List.mem_of_find?_eq_some hf)
    have hid : q.1 = f := by simpa using List.find?_some hf
    subst hid
    rw [← k3] at k4 ⊢
    exact Con.of_run k1 k2 k4 k5 k6 KOK.none hc'
  · cases hc'
/-- a call known from one memory. -/
structure CH where
  f : FuncId
  args : List AV
  h : H
  r : AV
  h' : H
noncomputable def callsH (cs : List CH) : FuncId → List AV → H → T (AV × H) := fun f args h => match cs.find? (fun c => c.f == f) with
  | some c => .br (askS args c.args h c.h) (.leaf (c.r, c.h')) .fail
  | none => .fail
theorem callsH_ok {X : SX} {cs : List CH} (hx : X.call = callsH cs) (hcs : ∀ c, c ∈ cs → Con X.E c.f c.args c.h c.r c.h') : CallOK X.E X.calls := by
  intro f args h r h' hc
  have hc' : (callsH cs f args h).run = .ok (r, h') := by rw [← hx]; exact hc
  show Con X.E f args h r h'
  unfold callsH at hc'
  split at hc'
  · rename_i c hf
    obtain ⟨hq, hr⟩ := brf_ok hc'
    cases hr
    obtain ⟨h1, h2⟩ := askS_eq hq
    have hid : c.f = f := by simpa using List.find?_some hf
    have := hcs c (List.mem_of_find?_eq_some hf)
    rw [hid, ← h1, ← h2] at this
    exact this
  · cases hc'
/-- a round from a memory that stays; what it made is dropped. -/
theorem Tri.seenB {X : SX} (g : Ground X.E) (hG : ∀ i cs, X.E.G i = some cs → noRefs cs = true) (hcall : CallOK X.E X.calls) {K : Known} {N : Nat} {h0 : H} {body : Code} (hK : KOK X.E N h0 body K) {c : Code} {p : List Nat} (hp : sub body p = c) {τ : Fr} {h : H} {L : List Nat} {x : AM.X} {vs : List AV} {h' extra : H}
    (hr : (obsK X K N c p τ h L).run = .ok (x, vs, h' ++ extra)) {sl : List (Nat × AV)} (hn : h0.length ≤ h'.length) (hh : ∀ x, x ∈ h' → x ≠ .hole)
    (hb : ∀ x, x ∈ h' → renB (fun b => if b < h'.length then b else b + extra.length) x = x)
    (hs : ∀ q, q ∈ sl → AM.frm (L.zip vs) q.1 = q.2 ∧ AM.ren (fun b => if b < h'.length then b else b + extra.length) q.2 = q.2 ∧ isFsl q.2 = false) : Tri X.E N h0 c τ h x (AM.frm sl) h' :=
  .wk .refl (Tri.of_obs g hcall hK hp hr) ((Wk.fewer fun q hq => (hs q hq).1).trans (Wk.cutF (sl := sl) (h' := h') (extra := extra) hG hn hh hb (fun q hq => (hs q hq).2)))
end Go.Proofs.YtcocmlmligjjcaaGreatDoor.AM

/- Contracts from outside whose answers hold lists of their own. -/
namespace Go.Proofs.YtcocmlmligjjcaaGreatDoor.AM
set_option linter.unusedVariables false
set_option linter.unusedSimpArgs false
set_option linter.unusedSectionVars false

/-- a call from outside, that makes but memory of its own; what it answers is read in that memory. -/
theorem Con.of_made {E : Env} {f : FuncId} {args : List AV} {us : List Value} (hp : Pins us args) {r : AV}
    (hen : ∀ W, (callFunc f us.toArray).run E.P W = .ok (.enter f us.toArray) W)
    (hc : ∀ w, Calls E.P f us.toArray w fun e w' => ∃ v, e = .returned v ∧ RowKit.Below w.heap.size w w' ∧ ∀ (F : Area) (ρ : Rho), (∀ B off, w.heap.size ≤ B → ¬ F B off) → CR F ρ w' v r) (h : H) : Con E f args h r h := by
  intro A ρ w vs hw hargs
  have hvs : vs = us.toArray := by
    have := hp.eq hargs.1 hargs.2
    rw [← this]
  subst hvs
  refine ⟨hen, (hc w).mono fun e w' ⟨v, he, hb, hr⟩ => ⟨v, ρ, he, ?_, ?_, hr _ _ fun B off hB hF => ?_⟩⟩
  · exact ⟨fun _ _ h => h, fun _ _ h => .inl h, fun _ _ _ h => .inl h, ⟨hb.os, hb.tape, hb.output⟩, hb.size, fun B cs e fz hB => by
      have hlt : B < w.heap.size := by
        rcases Nat.lt_or_ge B w.heap.size with h | h
        · exact h
        · rw [Array.getElem?_eq_none h] at hB; cases hB
      exact ⟨cs, fz, by rw [hb.block B hlt]; exact hB, rfl, fun off _ _ => rfl⟩, fun B hB _ => hb.block B hB⟩
  · have hk : Keeps (Forb A ρ (view h)) w (Forb A ρ (view h)) w' := fun B cs e fz hB => by
      have hlt : B < w.heap.size := by
        rcases Nat.lt_or_ge B w.heap.size with h | h
        · exact h
        · rw [Array.getElem?_eq_none h] at hB; cases hB
      exact ⟨cs, fz, by rw [hb.block B hlt]; exact hB, rfl, fun off _ hf => ⟨rfl, hf⟩⟩
    refine ⟨hw.dom, fun b x hbx hxh => ?_, hw.hole, hw.sep, fun B off ha => ⟨Nat.lt_of_lt_of_le (hw.avo B off ha).1 hb.size, (hw.avo B off ha).2⟩, fun i cs hi => (hw.glob i cs hi).mono (fun _ _ h => h) hk⟩
    obtain ⟨B, k, k1, k2, k3⟩ := hw.blk b x hbx hxh
    exact ⟨B, k, k1, Nat.lt_of_lt_of_le k2 hb.size, k3.mono (fun _ _ h => h) hk (hb.block B k2)⟩
  · rcases hF with ⟨b, k, blk, r1, r2, r3, r4⟩ | hA
    · obtain ⟨B', k', h1, h2, _⟩ := hw.blk b blk r2 (fun e => by rw [e] at r3; cases r3)
      rw [r1] at h1; cases h1
      omega
    · have := (hw.avo B off hA).1
      omega
/-- a row of texts in new memory. -/
theorem CR.texts {F : Area} {ρ : Rho} {w : World} {base : Nat} (hF : ∀ B off, base ≤ B → ¬ F B off) {v : Value} {l : List ByteArray}
    (hv : (v = .slice none 0 0 ∧ l = []) ∨ ∃ (g cap : Nat) (cur : Array Value) (e : TypeId) (fz : Nat × Nat), v = .slice (some ⟨g, 0, none⟩) l.length cap ∧ base ≤ g ∧ w.heap[g]? = some (.cells cur e fz) ∧ l.length ≤ cap ∧ cap ≤ cur.size ∧ ∀ (j : Nat) (s : ByteArray), l[j]? = some s → cur[j]? = some (.string s)) :
    CR F ρ w v (.lst 1 (l.map AV.str) .open_) := by
  rcases hv with ⟨rfl, rfl⟩ | ⟨g, cap, cur, e, fz, rfl, hg, hb, hn, hc, hj⟩
  · exact .lst0 nofun
  · have hl : (l.map AV.str).length = l.length := by simp
    refine .lst hb (by simp) (fun x hx => ?_) (fun j _ => hF g _ hg) (fun i j => .string (l.getD i .empty)) (fun i x j y hx hy => ?_) (fun i x j y hx hy => ?_) (by omega) (by omega) (fun h => by cases h) (fun t h => by cases h)
    · obtain ⟨s, _, rfl⟩ := List.mem_map.1 hx; rfl
    · rw [List.getElem?_map] at hx
      obtain ⟨s, hs, rfl⟩ := Option.map_eq_some_iff.1 hx
      have hj0 : j = 0 := by have := lt_of_getl hy; simp [AV.cells] at this; omega
      subst hj0
      have : l.getD i .empty = s := by rw [List.getD_eq_getElem?_getD, hs]; rfl
      rw [this]
      simpa using hj i s hs
    · rw [List.getElem?_map] at hx
      obtain ⟨s, hs, rfl⟩ := Option.map_eq_some_iff.1 hx
      have hj0 : j = 0 := by have := lt_of_getl hy; simp [AV.cells] at this; omega
      subst hj0
      have : l.getD i .empty = s := by rw [List.getD_eq_getElem?_getD, hs]; rfl
      rw [this]
      have hy' : y = .str s := by simpa [AV.cells] using hy.symm
      rw [hy']
      exact .str s
end Go.Proofs.YtcocmlmligjjcaaGreatDoor.AM

/- Maps whose keys are texts, as sets; loops that look for the first place while memory grows. -/
namespace Go.Proofs.YtcocmlmligjjcaaGreatDoor.AM
set_option linter.unusedVariables false
set_option linter.unusedSimpArgs false
set_option linter.unusedSectionVars false

/-- a set of texts as a map's entries. -/
def setOf (l : List ByteArray) : List (AV × AV) := l.map fun s => (AV.str s, AV.bool true)
theorem eqT_str {P : Program} {S : TypeId → Bool} {kt : TypeId} (hu : P.underlying kt = some .string) (a b : ByteArray) : eqT P S 99 kt (.str a) (.str b) = some (a == b) := by
  show eqT P S (98 + 1) kt (.str a) (.str b) = _
  simp only [eqT, hu]
theorem find_in {P : Program} {S : TypeId → Bool} {kt : TypeId} (hu : P.underlying kt = some .string) (s : ByteArray) : ∀ l : List ByteArray, s ∈ l → ∃ i, find (eqT P S 99 kt) (.str s) (setOf l) = some (some (i, .bool true)) ∧ i < l.length ∧ l[i]? = some s
  | [], h => by cases h
  | a :: l, h => by
    show ∃ i, find (eqT P S 99 kt) (.str s) ((AV.str a, AV.bool true) :: setOf l) = some (some (i, .bool true)) ∧ _
    simp only [find, eqT_str hu]
    by_cases e : s = a
    · have : (s == a) = true := (ba_beq_iff s a).2 e
      rw [this]
      exact ⟨0, rfl, by simp, by simp [e]⟩
    · have : (s == a) = false := by
        cases hb : s == a with
        | true => exact absurd ((ba_beq_iff s a).1 hb) e
        | false => rfl
      rw [this]
      obtain ⟨i, h1, h2, h3⟩ := find_in hu s l (by rcases List.mem_cons.1 h with h | h; · exact absurd h e
                                                   · exact h)
      exact ⟨i + 1, by rw [h1]; rfl, by simp; omega, by simpa using h3⟩
theorem find_out {P : Program} {S : TypeId → Bool} {kt : TypeId} (hu : P.underlying kt = some .string) (s : ByteArray) : ∀ l : List ByteArray, s ∉ l → find (eqT P S 99 kt) (.str s) (setOf l) = some none
  | [], _ => rfl
  | a :: l, h => by
    show find (eqT P S 99 kt) (.str s) ((AV.str a, AV.bool true) :: setOf l) = some none
    simp only [find, eqT_str hu]
    have e : s ≠ a := fun e => h (by rw [e]; exact List.mem_cons_self ..)
    have : (s == a) = false := by
      cases hb : s == a with
      | true => exact absurd ((ba_beq_iff s a).1 hb) e
      | false => rfl
    rw [this]
    rw [find_out hu s l (fun hm => h (List.mem_cons_of_mem _ hm))]; rfl
section
variable {P : Program} {S : TypeId → Bool} {kt : TypeId} {s : ByteArray} {l : List ByteArray}
theorem set_in (hu : P.underlying kt = some .string) (h : s ∈ l) : findB P S kt (.str s) (setOf l) = true ∧ findS P S kt (.str s) (setOf l) = true ∧ findV P S kt (.str s) (setOf l) = .bool true := by
  obtain ⟨i, h1, _⟩ := find_in (S := S) hu s l h
  unfold findB findS findV
  rw [h1]
  exact ⟨rfl, rfl, rfl⟩
theorem set_out (hu : P.underlying kt = some .string) (h : s ∉ l) : findB P S kt (.str s) (setOf l) = false ∧ findS P S kt (.str s) (setOf l) = true ∧ putOk P S kt (.str s) (setOf l) = true ∧ putM P S kt (.str s) (.bool true) (setOf l) = setOf (l ++ [s]) := by
  have h1 := find_out (S := S) hu s l h
  unfold findB findS putOk putM
  rw [h1]
  exact ⟨rfl, rfl, rfl, by simp [setOf]⟩
end
/-- a loop that looks for the first place, while memory grows from round to round. -/
theorem find_roundsH {E : Env} {N : Nat} {h0 : H} {c : Code} {p : Nat → Prop} {n : Nat} {st : Nat → List (Nat × AV)} {hm : Nat → H} {rt : Nat → List (Nat × AV)} {id : Nat}
    (hgo : ∀ j, j < n → (∀ k, k < j → ¬ p k) → ¬ p j → Tri E N h0 c (frm (st j)) (hm j) .normal (frm (st (j + 1))) (hm (j + 1)))
    (hhit : ∀ j, j < n → (∀ k, k < j → ¬ p k) → p j → Tri E N h0 c (frm (st j)) (hm j) .ret (frm (rt j)) (hm j))
    (hout : Tri E N h0 c (frm (st n)) (hm n) (.exit id) (frm (st n)) (hm n)) :
    match firstI p n with
    | some i => TRounds E N h0 c (frm (st 0)) (hm 0) .ret (frm (rt i)) (hm i)
    | none => TRounds E N h0 c (frm (st 0)) (hm 0) (.exit id) (frm (st n)) (hm n) := by
  have key : ∀ (d j : Nat), j + d = n → (∀ k, k < j → ¬ p k) → match firstFrom p d j with
      | some i => TRounds E N h0 c (frm (st j)) (hm j) .ret (frm (rt i)) (hm i)
      | none => TRounds E N h0 c (frm (st j)) (hm j) (.exit id) (frm (st n)) (hm n) := by
    intro d
    induction d with
    | zero =>
      intro j hj _
      obtain rfl : j = n := by omega
      exact .done hout nofun
    | succ d ih =>
      intro j hj hb
      simp only [firstFrom]
      cases hq : ask (p j) with
      | true => exact .done (hhit j (by omega) hb (ask_of hq)) nofun
      | false =>
        have hn : ¬ p j := fun h => by rw [ask_true h] at hq; cases hq
        have h1 := ih (j + 1) (by omega) (fun k hk => by
          rcases Nat.lt_succ_iff_lt_or_eq.1 hk with h | h
          · exact hb k h
          · rw [h]; exact hn)
        show match firstFrom p d (j + 1) with
          | some i => TRounds E N h0 c (frm (st j)) (hm j) .ret (frm (rt i)) (hm i)
          | none => TRounds E N h0 c (frm (st j)) (hm j) (.exit id) (frm (st n)) (hm n)
        cases hf : firstFrom p d (j + 1) with
        | some i => rw [hf] at h1; exact .more (hgo j (by omega) hb hn) h1
        | none => rw [hf] at h1; exact .more (hgo j (by omega) hb hn) h1
  exact key n 0 (by omega) (fun k hk => by omega)
/-- the elements' texts ahead of a place. -/
def upto {α : Type} (f : α → ByteArray) (L : List α) (j : Nat) : List ByteArray := (L.take j).map f
theorem upto_next {α : Type} (f : α → ByteArray) (L : List α) (j : Nat) (z : α) (h : j < L.length) : upto f L (j + 1) = upto f L j ++ [f (L.getD j z)] := by
  unfold upto
  rw [List.take_add_one, List.map_append, List.getD_eq_getElem?_getD, List.getElem?_eq_getElem h]
  rfl
theorem mem_upto {α : Type} {f : α → ByteArray} {L : List α} {j : Nat} {z : α} (hj : j ≤ L.length) {s : ByteArray} : s ∈ upto f L j ↔ ∃ k, k < j ∧ f (L.getD k z) = s := by
  unfold upto
  rw [List.mem_map]
  constructor
  · rintro ⟨x, hx, rfl⟩
    obtain ⟨k, hk, rfl⟩ := List.mem_take_iff_getElem.1 hx
    refine ⟨k, by omega, ?_⟩
    rw [List.getD_eq_getElem?_getD, List.getElem?_eq_getElem (by omega)]; rfl
  · rintro ⟨k, hk, rfl⟩
    have hk2 : k < L.length := by omega
    refine ⟨L[k], List.mem_take_iff_getElem.2 ⟨k, by omega, rfl⟩, ?_⟩
    rw [List.getD_eq_getElem?_getD, List.getElem?_eq_getElem hk2]; rfl
end Go.Proofs.YtcocmlmligjjcaaGreatDoor.AM

/- Numbers as bytes (seven bits a byte): what putting comes to; maps as sets of keys, and how many there are. -/
namespace Go.Proofs.YtcocmlmligjjcaaGreatDoor.AM
set_option linter.unusedVariables false
set_option linter.unusedSimpArgs false
set_option linter.unusedSectionVars false

/-! ## numbers as bytes -/
/-- a whole number without its sign. -/
def zig (n : Int) : Int := if n < 0 then -2 * n - 1 else 2 * n
/-- so many bytes at most. -/
def vb : Nat → Int → List AV
  | 0, _ => []
  | m + 1, u => if 128 ≤ u then .int .u8 (u % 128 + 128) :: vb m (u / 128) else [.int .u8 u]
/-- a number's bytes. -/
def numB (n : Int) : List AV := vb 10 (zig n)
/-- a text's bytes: how many, and they. -/
def txB (s : ByteArray) : List AV := numB (s.size : Int) ++ ofBytes s
def IsB (l : List AV) : Prop := ∀ y, y ∈ l → ∃ n, y = AV.int .u8 n
theorem IsB.nil : IsB [] := fun y h => by cases h
theorem IsB.append {l m : List AV} (a : IsB l) (b : IsB m) : IsB (l ++ m) := fun y h => (List.mem_append.1 h).elim (a y) (b y)
theorem IsB.one (n : Int) : IsB [.int .u8 n] := fun y h => ⟨n, List.mem_singleton.1 h⟩
theorem vb_isB : ∀ m u, IsB (vb m u)
  | 0, _ => IsB.nil
  | m + 1, u => by
    unfold vb
    split
    · exact IsB.append (l := [_]) (IsB.one _) (vb_isB m _)
    · exact IsB.one _
theorem vb_len : ∀ m u, (vb m u).length ≤ m
  | 0, _ => Nat.le_refl _
  | m + 1, u => by
    have := vb_len m (u / 128)
    unfold vb
    split
    · simp only [List.length_cons]; omega
    · simp
theorem ofBytes_isB (s : ByteArray) : IsB (ofBytes s) := fun y h => by
  obtain ⟨c, _, rfl⟩ := List.mem_map.1 h
  exact ⟨_, rfl⟩
theorem ofBytes_len (s : ByteArray) : (ofBytes s).length = s.size := by simp [ofBytes]
theorem numB_isB (n : Int) : IsB (numB n) := vb_isB _ _
theorem numB_len (n : Int) : (numB n).length ≤ 10 := vb_len _ _
theorem txB_isB (s : ByteArray) : IsB (txB s) := (numB_isB _).append (ofBytes_isB s)
theorem txB_len (s : ByteArray) : (txB s).length ≤ 10 + s.size := by
  have := numB_len (s.size : Int)
  simp only [txB, List.length_append, ofBytes_len]; omega
theorem IsB.leafs {l : List AV} (h : IsB l) : (l.all fun y => y.cells.all AV.leaf) = true := by
  rw [List.all_eq_true]
  intro y hy
  obtain ⟨n, rfl⟩ := h y hy
  rfl
theorem IsB.noRefs {l : List AV} (h : IsB l) : noRefs l = true := noRefs_mem l fun y hy => by
  obtain ⟨n, rfl⟩ := h y hy; rfl
theorem zig_range {n : Int} (h0 : -9223372036854775808 ≤ n) (h1 : n < 9223372036854775808) : 0 ≤ zig n ∧ zig n < 18446744073709551616 := by
  unfold zig; split <;> omega
/-! ## how the program cuts a number -/
theorem wrapU64 (n : Int) : IntKind.u64.wrap n = n % 18446744073709551616 := rfl
theorem wrapU8 (n : Int) : IntKind.u8.wrap n = n % 256 := rfl
/-- the lower byte, by bits. -/
abbrev loP (u : Int) : AV := .int .u8 (IntKind.u8.wrap ((BitVec.ofInt 8 (IntKind.u8.wrap u) ||| BitVec.ofInt 8 128).toNat : Int))
abbrev laP (u : Int) : AV := .int .u8 (IntKind.u8.wrap u)
abbrev zigP (n : Int) : Int := IntKind.u64.wrap ((BitVec.ofInt 64 (IntKind.u64.wrap (IntKind.u64.wrap n * 2 ^ 1)) ^^^ BitVec.ofInt 64 (IntKind.u64.wrap (n.fdiv (2 ^ 63)))).toNat : Int)
set_option maxRecDepth 100000 in
theorem or128 : ∀ x : Fin 256, (x.val ||| 128) = x.val % 128 + 128 := by decide
theorem ofInt_toNat {w : Nat} {x : Int} (h0 : 0 ≤ x) (h1 : x < 2 ^ w) : (BitVec.ofInt w x).toNat = x.toNat := by
  rw [BitVec.toNat_ofInt]
  congr 1
  rw [Int.emod_eq_of_lt h0 (by simpa using h1)]
theorem loP_eq (u : Int) (h : 0 ≤ u) : loP u = .int .u8 (u % 128 + 128) := by
  unfold loP
  congr 1
  have h1 : (BitVec.ofInt 8 (IntKind.u8.wrap u)).toNat = (u % 256).toNat := by rw [wrapU8]; exact ofInt_toNat (by omega) (by show u % 256 < 256; omega)
  have h2 : (BitVec.ofInt 8 128).toNat = 128 := rfl
  rw [BitVec.toNat_or, h1, h2]
  have h3 := or128 ⟨(u % 256).toNat, by omega⟩
  simp only at h3
  rw [h3, wrapU8]
  omega
theorem zigP_eq (n : Int) (h0 : -9223372036854775808 ≤ n) (h1 : n < 9223372036854775808) : zigP n = zig n := by
  unfold zigP zig
  have e1 : IntKind.u64.wrap (IntKind.u64.wrap n * 2 ^ 1) = (2 * n) % 18446744073709551616 := by rw [wrapU64, wrapU64]; omega
  have e2 : (BitVec.ofInt 64 ((2 * n) % 18446744073709551616)).toNat = ((2 * n) % 18446744073709551616).toNat := ofInt_toNat (by omega) (by show _ < (18446744073709551616 : Int); omega)
  have e3 : n.fdiv (2 ^ 63) = n / 9223372036854775808 := Int.fdiv_eq_ediv_of_nonneg _ (by decide)
  rw [e1, e3, BitVec.toNat_xor, e2]
  by_cases h : n < 0
  · rw [if_pos h]
    have e4 : n / 9223372036854775808 = -1 := by omega
    have e5 : BitVec.ofInt 64 (IntKind.u64.wrap (-1)) = BitVec.allOnes 64 := by decide
    rw [e4, e5, BitVec.toNat_allOnes]
    have e6 : ((2 * n) % 18446744073709551616).toNat ^^^ (2 ^ 64 - 1) = 2 ^ 64 - 1 - ((2 * n) % 18446744073709551616).toNat := by
      have := BitVec.toNat_not (x := BitVec.ofInt 64 ((2 * n) % 18446744073709551616))
      rw [← BitVec.xor_allOnes, BitVec.toNat_xor, e2, BitVec.toNat_allOnes] at this
      exact this
    rw [e6, wrapU64]
    omega
  · rw [if_neg h]
    have e4 : n / 9223372036854775808 = 0 := by omega
    have e5 : (BitVec.ofInt 64 (IntKind.u64.wrap 0)).toNat = 0 := by decide
    rw [e4, e5, Nat.xor_zero, wrapU64]
    omega
/-- is there room for so many more? -/
abbrev room (n m : Nat) (new : List AV) : Bool := decide ((n + m) * 1 ≤ 140000000000000) && decide (n + m ≤ 140000000000000) && new.all fun y => y.cells.all AV.leaf
theorem room_ok {n m : Nat} {new : List AV} (h : n + m ≤ 140000000000000) (hb : IsB new) : room n m new = true := by
  unfold room
  rw [hb.leafs, decide_eq_true h, decide_eq_true (by omega)]; rfl
/-- what the program's putting ends with: a row made of another one and bytes. -/
noncomputable def lastP (K : AV → T AV) (bs acc : List AV) : T AV :=
  .br true (.br true (.br true (.br (decide (0 ≤ ((bs.length : Nat) : Int).toNat) && decide (((bs.length : Nat) : Int).toNat ≤ bs.length) && decide (((bs.length : Nat) : Int).toNat = ((bs.length : Nat) : Int).toNat))
    (.br (room (bs.take (((bs.length : Nat) : Int).toNat - 0)).length acc.length acc) (.br acc.isEmpty (K (.lst 1 (bs.take (((bs.length : Nat) : Int).toNat - 0)) .clip)) (K (.lst 1 (bs.take (((bs.length : Nat) : Int).toNat - 0) ++ acc) (.own 3)))) .fail) .fail) .fail) .fail) .fail
noncomputable def putP (K : AV → T AV) (bs : List AV) : Nat → List AV → Int → T AV
  | 0, _, u => .br (decide (128 ≤ u)) (.br false .fail .fail) (.br false .fail .fail)
  | m + 1, acc, u => .br (decide (128 ≤ u)) (.br true (putP K bs m (acc ++ [loP u]) (u.fdiv (2 ^ 7))) .fail) (lastP K bs (acc ++ [laP u]))
theorem lastP_run {K : AV → T AV} {bs acc : List AV} {x : R AV} (h1 : bs.length + acc.length ≤ 140000000000000) (h2 : IsB acc) (h3 : acc ≠ []) (hx : (K (.lst 1 (bs ++ acc) (.own 3))).run = x) : (lastP K bs acc).run = x := by
  have e : bs.take (((bs.length : Nat) : Int).toNat - 0) = bs := by rw [Int.toNat_natCast]; simp
  unfold lastP
  rw [e]
  refine bT rfl (bT rfl (bT rfl (bT (by simp) (bT (room_ok h1 h2) (bF ?_ hx)))))
  cases acc with
  | nil => exact absurd rfl h3
  | cons a l => rfl
theorem putP_run {K : AV → T AV} {bs : List AV} {x : R AV} : ∀ (m : Nat) (acc : List AV) (u : Int), 0 ≤ u → u < 128 ^ m → 0 < m → bs.length + acc.length + m ≤ 140000000000000 → IsB acc → (K (.lst 1 (bs ++ (acc ++ vb m u)) (.own 3))).run = x → (putP K bs m acc u).run = x
  | 0, acc, u, h0, h1, h2, _, _, _ => by omega
  | m + 1, acc, u, h0, h1, _, hr, hb, hx => by
    unfold putP
    unfold vb at hx
    by_cases h : 128 ≤ u
    · rw [if_pos h] at hx
      have hf : u.fdiv (2 ^ 7) = u / 128 := Int.fdiv_eq_ediv_of_nonneg _ (by decide)
      have hm : 0 < m := by
        rcases Nat.eq_zero_or_pos m with rfl | h
        · simp at h1; omega
        · exact h
      refine bT (decide_eq_true h) (bT rfl ?_)
      rw [hf, loP_eq u h0]
      refine putP_run m _ _ (by omega) ?_ hm (by simp; omega) (hb.append (IsB.one _)) (by rw [List.append_assoc]; exact hx)
      rw [Int.pow_succ] at h1; omega
    · rw [if_neg h] at hx
      have hl : laP u = .int .u8 u := by unfold laP; rw [wrapU8, Int.emod_eq_of_lt h0 (by omega)]
      rw [hl]
      refine bF (decide_eq_false h) (lastP_run (by simp; omega) (hb.append (IsB.one _)) (by simp) hx)
/-! ## how the document's answer cuts a number -/
abbrev shR (u : Int) : Int := IntKind.u64.wrap (u.tdiv 128)
abbrev loR (u : Int) : AV := .int .u8 (IntKind.u8.wrap (IntKind.u8.wrap (u.tmod 128) + 128))
theorem loR_eq (u : Int) (h : 0 ≤ u) : loR u = .int .u8 (u % 128 + 128) := by
  unfold loR
  rw [Int.tmod_eq_emod_of_nonneg h, wrapU8, wrapU8]
  congr 1; omega
theorem shR_eq (u : Int) (h : 0 ≤ u) (h1 : u < 18446744073709551616) : shR u = u / 128 := by
  unfold shR
  rw [Int.tdiv_eq_ediv_of_nonneg h, wrapU64]; omega
/-- rounds over a row of one's own; h: how much memory there is. -/
noncomputable def refL (K : AV → Nat → T AV) : Nat → List AV → Nat → Int → T AV
  | 0, _, _, _ => .fail
  | m + 1, l, h, u => .br (decide (128 ≤ u)) (.br true (.br (room l.length 1 [loR u]) (.br true (refL K m (l ++ [loR u]) (h + 2) (shR u)) .fail) .fail) .fail) (.br (room l.length 1 [laP u]) (K (.lst 1 (l ++ [laP u]) (.own (h + 1))) (h + 2)) .fail)
noncomputable def refN (K : AV → Nat → T AV) : Nat → Nat → Int → T AV
  | 0, _, _ => .fail
  | m + 1, h, u => .br (decide (128 ≤ u)) (.br true (.br true (.br false (.br true (refN K m (h + 1) (shR u)) .fail) (.br true (refL K m [loR u] (h + 2) (shR u)) .fail)) .fail) .fail) (.br true (.br false (K .nils (h + 1)) (K (.lst 1 [laP u] (.own (h + 1))) (h + 2))) .fail)
theorem refL_run {K : AV → Nat → T AV} {y : List AV} : ∀ (m : Nat) (l : List AV) (h : Nat) (u : Int), 0 ≤ u → u < 128 ^ m → u < 18446744073709551616 → 0 < m → l.length + m ≤ 140000000000000 → l ++ vb m u = y → ∃ h', (refL K m l h u).run = (K (.lst 1 y (.own (h' + 1))) (h' + 2)).run
  | 0, _, _, _, _, _, _, h, _, _ => by omega
  | m + 1, l, h, u, h0, h1, h2, _, hr, hy => by
    unfold refL
    unfold vb at hy
    by_cases hc : 128 ≤ u
    · rw [if_pos hc] at hy
      have hm : 0 < m := by
        rcases Nat.eq_zero_or_pos m with rfl | h
        · simp at h1; omega
        · exact h
      have hb : IsB [loR u] := IsB.one _
      rw [Int.pow_succ] at h1
      obtain ⟨h', hx⟩ := refL_run (K := K) (y := y) m (l ++ [.int .u8 (u % 128 + 128)]) (h + 2) (u / 128) (by omega) (by omega) (by omega) hm (by simp; omega) (by rw [List.append_assoc]; exact hy)
      refine ⟨h', bT (decide_eq_true hc) (bT rfl (bT (room_ok (by omega) hb) (bT rfl ?_)))⟩
      rw [shR_eq u h0 h2, loR_eq u h0]
      exact hx
    · rw [if_neg hc] at hy
      have hl : laP u = .int .u8 u := by unfold laP; rw [wrapU8, Int.emod_eq_of_lt h0 (by omega)]
      have hb : IsB [laP u] := IsB.one _
      refine ⟨h, bF (decide_eq_false hc) (bT (room_ok (by omega) hb) ?_)⟩
      rw [hl, hy]
theorem refN_run {K : AV → Nat → T AV} {y : List AV} (m h : Nat) (u : Int) (h0 : 0 ≤ u) (h1 : u < 128 ^ m) (h2 : u < 18446744073709551616) (hm : 0 < m) (hl : m ≤ 1000) (hy : vb m u = y) : ∃ h', (refN K m h u).run = (K (.lst 1 y (.own (h' + 1))) (h' + 2)).run := by
  obtain ⟨m, rfl⟩ : ∃ k, m = k + 1 := ⟨m - 1, by omega⟩
  unfold refN
  unfold vb at hy
  by_cases hc : 128 ≤ u
  · rw [if_pos hc] at hy
    have hm : 0 < m := by
      rcases Nat.eq_zero_or_pos m with rfl | h
      · simp at h1; omega
      · exact h
    rw [Int.pow_succ] at h1
    obtain ⟨h', hx⟩ := refL_run (K := K) (y := y) m [.int .u8 (u % 128 + 128)] (h + 2) (u / 128) (by omega) (by omega) (by omega) hm (by simp; omega) hy
    refine ⟨h', bT (decide_eq_true hc) (bT rfl (bT rfl (bF rfl (bT rfl ?_))))⟩
    rw [shR_eq u h0 h2, loR_eq u h0]
    exact hx
  · rw [if_neg hc] at hy
    have hl : laP u = .int .u8 u := by unfold laP; rw [wrapU8, Int.emod_eq_of_lt h0 (by omega)]
    refine ⟨h, bF (decide_eq_false hc) (bT rfl (bF rfl ?_))⟩
    rw [hl, hy]
/-- how the document's answer cuts off a sign. -/
abbrev zigN (n : Int) : Int := IntKind.u64.wrap (IntKind.u64.wrap (IntKind.u64.wrap (IntKind.i64.wrap (0 - IntKind.i64.wrap (n + 1))) * 2) + 1)
abbrev zigR (n : Int) : Int := IntKind.u64.wrap (IntKind.u64.wrap n * 2)
theorem wrapI64 (n : Int) (h0 : -9223372036854775808 ≤ n) (h1 : n < 9223372036854775808) : IntKind.i64.wrap n = n := by
  show (if (true && decide (n % 18446744073709551616 ≥ 9223372036854775808)) = true then _ else _) = n
  simp only [Bool.true_and, decide_eq_true_eq]
  split <;> (simp only [show ((2 : Int) ^ IntKind.i64.bits) = 18446744073709551616 from rfl]; omega)
theorem zigN_eq {n : Int} (h0 : -9223372036854775808 ≤ n) (h : n < 0) : zigN n = zig n := by
  unfold zigN zig
  rw [if_pos h, wrapI64 (n + 1) (by omega) (by omega), wrapI64 _ (by omega) (by omega), wrapU64, wrapU64, wrapU64]
  omega
theorem zigR_eq {n : Int} (h : 0 ≤ n) (h1 : n < 9223372036854775808) : zigR n = zig n := by
  unfold zigR zig
  rw [if_neg (by omega), wrapU64, wrapU64]
  omega
/-- a number put behind bytes, by the document's answer. -/
noncomputable def putR (K : AV → Nat → T AV) (bs : List AV) (n : Int) (m : Nat) : T AV :=
  .br (room 0 bs.length bs) (.br bs.isEmpty (.br (decide (n < 0)) (refN K m 0 (zigN n)) (refN K m 0 (zigR n))) (.br (decide (n < 0)) (refL K m bs 1 (zigN n)) (refL K m bs 1 (zigR n)))) .fail
theorem vb_more : ∀ (m : Nat) (u : Int), 0 ≤ u → u < 128 ^ m → 0 < m → vb (m + 1) u = vb m u
  | 0, u, _, _, h => by omega
  | m + 1, u, h0, h1, _ => by
    show (if 128 ≤ u then AV.int .u8 (u % 128 + 128) :: vb (m + 1) (u / 128) else [.int .u8 u]) = (if 128 ≤ u then AV.int .u8 (u % 128 + 128) :: vb m (u / 128) else [.int .u8 u])
    by_cases hc : 128 ≤ u
    · rw [if_pos hc, if_pos hc]
      have hm : 0 < m := by
        rcases Nat.eq_zero_or_pos m with rfl | h
        · simp at h1; omega
        · exact h
      rw [Int.pow_succ] at h1
      rw [vb_more m _ (by omega) (by omega) hm]
    · rw [if_neg hc, if_neg hc]
theorem putR_run {K : AV → Nat → T AV} {bs : List AV} {n : Int} (hb : IsB bs) (hl : bs.length ≤ 130000000000000) (h0 : -9223372036854775808 ≤ n) (h1 : n < 9223372036854775808) : ∃ h, (putR K bs n 12).run = (K (.lst 1 (bs ++ numB n) (.own (h + 1))) (h + 2)).run := by
  obtain ⟨z0, z1⟩ := zig_range h0 h1
  have e : vb 12 (zig n) = numB n := by
    have h70 : (18446744073709551616 : Int) < 128 ^ 10 := by decide
    have h77 : (18446744073709551616 : Int) < 128 ^ 11 := by decide
    rw [vb_more 11 _ z0 (by omega) (by decide), vb_more 10 _ z0 (by omega) (by decide)]; rfl
  have hp : zig n < 128 ^ 12 := by
    have : (18446744073709551616 : Int) < 128 ^ 12 := by decide
    omega
  unfold putR
  cases hbs : bs with
  | nil =>
    subst hbs
    obtain ⟨h', hR⟩ := refN_run (K := K) (y := [] ++ numB n) 12 0 _ z0 hp z1 (by decide) (by decide) (by rw [e]; rfl)
    refine ⟨h', bT (room_ok (by omega) hb) (bT rfl ?_)⟩
    by_cases h : n < 0
    · refine bT (decide_eq_true h) ?_
      rw [zigN_eq h0 h]; exact hR
    · refine bF (decide_eq_false h) ?_
      rw [zigR_eq (by omega) h1]; exact hR
  | cons b l =>
    rw [← hbs]
    obtain ⟨h', hR⟩ := refL_run (K := K) (y := bs ++ numB n) 12 bs 1 _ z0 hp z1 (by decide) (by omega) (by rw [e])
    refine ⟨h', bT (room_ok (by omega) hb) (bF (by rw [hbs]; rfl) ?_)⟩
    by_cases h : n < 0
    · refine bT (decide_eq_true h) ?_
      rw [zigN_eq h0 h]; exact hR
    · refine bF (decide_eq_false h) ?_
      rw [zigR_eq (by omega) h1]; exact hR
/-! ## maps as sets of keys -/
section
variable {α : Type} [DecidableEq α]
/-- a row without what it holds already. -/
def adds (l : List α) (x : α) : List α := if x ∈ l then l else l ++ [x]
def uniq (L : List α) (j : Nat) : List α := (L.take j).foldl adds []
theorem uniq_zero (L : List α) : uniq L 0 = [] := by simp [uniq]
theorem uniq_next (L : List α) (j : Nat) (z : α) (h : j < L.length) : uniq L (j + 1) = adds (uniq L j) (L.getD j z) := by
  unfold uniq
  rw [List.take_add_one, List.foldl_append, List.getD_eq_getElem?_getD, List.getElem?_eq_getElem h]
  rfl
theorem mem_adds {l : List α} {x y : α} : y ∈ adds l x ↔ y ∈ l ∨ y = x := by
  unfold adds
  split
  · rename_i h
    exact ⟨.inl, fun hy => hy.elim id (fun e => e ▸ h)⟩
  · simp
theorem mem_uniq (L : List α) (z : α) : ∀ (j : Nat), j ≤ L.length → ∀ x, x ∈ uniq L j ↔ ∃ k, k < j ∧ L.getD k z = x
  | 0, _, x => by rw [uniq_zero]; simp
  | j + 1, hj, x => by
    rw [uniq_next L j z (by omega), mem_adds, mem_uniq L z j (by omega) x]
    constructor
    · rintro (⟨k, h1, h2⟩ | h)
      · exact ⟨k, by omega, h2⟩
      · exact ⟨j, by omega, h.symm⟩
    · rintro ⟨k, h1, h2⟩
      rcases Nat.lt_succ_iff_lt_or_eq.1 h1 with h | h
      · exact .inl ⟨k, h, h2⟩
      · exact .inr (by rw [← h2, h])
theorem uniq_len (L : List α) (z : α) : ∀ (j : Nat), j ≤ L.length → (uniq L j).length ≤ j ∧ ((uniq L j).length < j ↔ ∃ i, i < j ∧ ∃ k, k < i ∧ L.getD k z = L.getD i z)
  | 0, _ => by rw [uniq_zero]; simp
  | j + 1, hj => by
    obtain ⟨h1, h2⟩ := uniq_len L z j (by omega)
    have hm := mem_uniq L z j (by omega) (L.getD j z)
    rw [uniq_next L j z (by omega)]
    unfold adds
    split
    · rename_i h
      refine ⟨by omega, fun _ => ⟨j, by omega, hm.1 h⟩, fun _ => by omega⟩
    · rename_i h
      rw [List.length_append, List.length_singleton]
      refine ⟨by omega, fun hl => ?_, ?_⟩
      · obtain ⟨i, a, b⟩ := h2.1 (by omega)
        exact ⟨i, by omega, b⟩
      · rintro ⟨i, hi, hk⟩
        rcases Nat.lt_succ_iff_lt_or_eq.1 hi with a | a
        · have := h2.2 ⟨i, a, hk⟩; omega
        · subst a
          exact absurd (hm.2 hk) h
end
/-- a set of keys as a map's entries. -/
def setBy {α : Type} (K : α → AV) (l : List α) : List (AV × AV) := l.map fun x => (K x, AV.bool true)
section
variable {P : Program} {S : TypeId → Bool} {kt : TypeId} {α : Type} [DecidableEq α] {K : α → AV}
theorem findBy_in (he : ∀ a b, eqT P S 99 kt (K a) (K b) = some (decide (a = b))) (s : α) : ∀ l : List α, s ∈ l → ∃ i, find (eqT P S 99 kt) (K s) (setBy K l) = some (some (i, .bool true)) ∧ i < l.length ∧ l[i]? = some s
  | [], h => by cases h
  | a :: l, h => by
    show ∃ i, find (eqT P S 99 kt) (K s) ((K a, AV.bool true) :: setBy K l) = some (some (i, .bool true)) ∧ _
    simp only [find, he]
    by_cases e : s = a
    · rw [decide_eq_true e]
      exact ⟨0, rfl, by simp, by simp [e]⟩
    · rw [decide_eq_false e]
      obtain ⟨i, h1, h2, h3⟩ := findBy_in he s l (by rcases List.mem_cons.1 h with h | h; · exact absurd h e
                                                     · exact h)
      exact ⟨i + 1, by rw [h1]; rfl, by simp; omega, by simpa using h3⟩
theorem findBy_out (he : ∀ a b, eqT P S 99 kt (K a) (K b) = some (decide (a = b))) (s : α) : ∀ l : List α, s ∉ l → find (eqT P S 99 kt) (K s) (setBy K l) = some none
  | [], _ => rfl
  | a :: l, h => by
    show find (eqT P S 99 kt) (K s) ((K a, AV.bool true) :: setBy K l) = some none
    simp only [find, he]
    rw [decide_eq_false fun e => h (by rw [e]; exact List.mem_cons_self ..), findBy_out he s l (fun hm => h (List.mem_cons_of_mem _ hm))]; rfl
theorem setBy_put (he : ∀ a b, eqT P S 99 kt (K a) (K b) = some (decide (a = b))) (hp : ∀ a, plainEq (K a) (K a) = true) (s : α) (l : List α) :
    putOk P S kt (K s) (setBy K l) = true ∧ putM P S kt (K s) (.bool true) (setBy K l) = setBy K (adds l s) := by
  unfold putOk putM adds
  by_cases h : s ∈ l
  · obtain ⟨i, h1, h2, h3⟩ := findBy_in he s l h
    rw [h1, if_pos h]
    have hg : (setBy K l)[i]? = some (K s, .bool true) := by simp [setBy, h3]
    refine ⟨?_, ?_⟩
    · show (match (setBy K l)[i]? with | some e => plainEq (K s) e.1 | none => false) = true
      rw [hg]; exact hp s
    · show (setBy K l).set i (K s, .bool true) = setBy K l
      refine List.ext_getElem? fun j => ?_
      rw [List.getElem?_set]
      split
      · rename_i e
        subst e
        rw [if_pos (by simpa [setBy] using h2), hg]
      · rfl
  · rw [findBy_out he s l h, if_neg h]
    exact ⟨rfl, by simp [setBy]⟩
end
end Go.Proofs.YtcocmlmligjjcaaGreatDoor.AM

/- One contract out of a function that looks for the first place; values that a renaming of new memory leaves as they are. -/
namespace Go.Proofs.YtcocmlmligjjcaaGreatDoor.AM
set_option linter.unusedVariables false
set_option linter.unusedSimpArgs false
set_option linter.unusedSectionVars false

/-- a value whose names lie below n. -/
def fx (n : Nat) (v : AV) : Prop := ∀ m, ren (fun b => if b < n then b else b + m) v = v
theorem fx_of {n : Nat} {v : AV} (h : noRef v = true) : fx n v := fun m => ren_noRef _ _ h
theorem fx_L {n : Nat} {t : Ty} {L : List t.I} : fx n (encL t L) := fx_of (encL_noRef t L)
def fxB (n : Nat) (x : Blk) : Prop := x ≠ .hole ∧ ∀ m, renB (fun b => if b < n then b else b + m) x = x
theorem fxB_var {n : Nat} {l : List AV} (h : ∀ v, v ∈ l → fx n v) : fxB n (.var l) := by
  refine ⟨nofun, fun m => ?_⟩
  simp only [renB]
  congr 1
  have : ∀ l : List AV, (∀ v, v ∈ l → fx n v) → rens (fun b => if b < n then b else b + m) l = l := by
    intro l
    induction l with
    | nil => intro _; rfl
    | cons a l ih =>
      intro h
      simp only [rens]
      rw [h a (List.mem_cons_self ..) m, ih fun v hv => h v (List.mem_cons_of_mem _ hv)]
  exact this l h
theorem fxB_set {n : Nat} (l : List ByteArray) : fxB n (.map (setOf l)) := by
  refine ⟨nofun, fun m => ?_⟩
  simp only [renB, setOf, List.map_map]
  congr 1
/-- a round from memory that stays; what it made is dropped. -/
theorem Tri.seenX {X : SX} (g : Ground X.E) (hG : ∀ i cs, X.E.G i = some cs → noRefs cs = true) (hcall : CallOK X.E X.calls) {N : Nat} {h0 : H} {body : Code} {p : List Nat} {τ : Fr} {h : H} {L : List Nat} {x : AM.X} {vs : List AV} {h' extra : H}
    (hr : (obsK X (fun _ => none) N (sub body p) p τ h L).run = .ok (x, vs, h' ++ extra)) {sl : List (Nat × AV)} (hn : h0.length ≤ h'.length) (hh : ∀ x, x ∈ h' → fxB h'.length x)
    (hs : ∀ q, q ∈ sl → AM.frm (L.zip vs) q.1 = q.2 ∧ fx h'.length q.2 ∧ isFsl q.2 = false) : Tri X.E N h0 (sub body p) τ h x (AM.frm sl) h' :=
  Tri.seenB g hG hcall KOK.none rfl hr hn (fun x hx => (hh x hx).1) (fun x hx => (hh x hx).2 extra.length) (fun q hq => ⟨(hs q hq).1, (hs q hq).2.1 extra.length, (hs q hq).2.2⟩)
/-- a loop that looks for the first place; the memory that it stops with is a thing of its own. -/
theorem find_roundsR {E : Env} {N : Nat} {h0 : H} {c : Code} {p : Nat → Prop} {n : Nat} {st : Nat → List (Nat × AV)} {hm hr : Nat → H} {rt : Nat → List (Nat × AV)} {id : Nat}
    (hgo : ∀ j, j < n → (∀ k, k < j → ¬ p k) → ¬ p j → Tri E N h0 c (frm (st j)) (hm j) .normal (frm (st (j + 1))) (hm (j + 1)))
    (hhit : ∀ j, j < n → (∀ k, k < j → ¬ p k) → p j → Tri E N h0 c (frm (st j)) (hm j) .ret (frm (rt j)) (hr j))
    (hout : Tri E N h0 c (frm (st n)) (hm n) (.exit id) (frm (st n)) (hm n)) :
    (∀ i, firstI p n = some i → Tri E N h0 (.block id (.loop c)) (frm (st 0)) (hm 0) .ret (frm (rt i)) (hr i)) ∧ (firstI p n = none → Tri E N h0 (.block id (.loop c)) (frm (st 0)) (hm 0) .normal (frm (st n)) (hm n)) := by
  have key : ∀ (d j : Nat), j + d = n → (∀ k, k < j → ¬ p k) → match firstFrom p d j with
      | some i => TRounds E N h0 c (frm (st j)) (hm j) .ret (frm (rt i)) (hr i)
      | none => TRounds E N h0 c (frm (st j)) (hm j) (.exit id) (frm (st n)) (hm n) := by
    intro d
    induction d with
    | zero =>
      intro j hj _
      obtain rfl : j = n := by omega
      exact .done hout nofun
    | succ d ih =>
      intro j hj hb
      simp only [firstFrom]
      cases hq : ask (p j) with
      | true => exact .done (hhit j (by omega) hb (ask_of hq)) nofun
      | false =>
        have hn : ¬ p j := fun h => by rw [ask_true h] at hq; cases hq
        have h1 := ih (j + 1) (by omega) (fun k hk => by
          rcases Nat.lt_succ_iff_lt_or_eq.1 hk with h | h
          · exact hb k h
          · rw [h]; exact hn)
        show match firstFrom p d (j + 1) with
          | some i => TRounds E N h0 c (frm (st j)) (hm j) .ret (frm (rt i)) (hr i)
          | none => TRounds E N h0 c (frm (st j)) (hm j) (.exit id) (frm (st n)) (hm n)
        cases hf : firstFrom p d (j + 1) with
        | some i => rw [hf] at h1; exact .more (hgo j (by omega) hb hn) h1
        | none => rw [hf] at h1; exact .more (hgo j (by omega) hb hn) h1
  have hT := key n 0 (by omega) (fun k hk => by omega)
  have hx : AM.X.inBlock id (.exit id) = .normal := by simp [AM.X.inBlock]
  constructor
  · intro i hf
    have hf' : firstFrom p n 0 = some i := hf
    rw [hf'] at hT
    exact Tri.block (id := id) (Tri.loop hT)
  · intro hf
    have hf' : firstFrom p n 0 = none := hf
    rw [hf'] at hT
    exact hx ▸ Tri.block (id := id) (Tri.loop hT)
/-- a function that looks for the first place: what it answers. -/
theorem find_fn {X : SX} (g : Ground X.E) (hG : ∀ i cs, X.E.G i = some cs → noRefs cs = true) (hcall : CallOK X.E X.calls) {f : FuncId} {fn : Func} (hfn : X.E.P.funcs[f]? = some fn) {c : Code} (hb : fn.body = some c) (hname : (fn.name == "runtime.NumGoroutine") = false) {args : List AV}
    (hn : noRefs args = true) {N : Nat} (hN : max fn.ntmps args.length = N) (P : List Nat) {id : Nat} {c0 : Code} (hc : sub c P = .block id (.loop c0)) {p : Nat → Prop} {n : Nat} {st : Nat → List (Nat × AV)} {hm hr : Nat → H} {rt : Nat → List (Nat × AV)}
    (hgo : ∀ j, j < n → (∀ k, k < j → ¬ p k) → ¬ p j → Tri X.E N [] c0 (frm (st j)) (hm j) .normal (frm (st (j + 1))) (hm (j + 1)))
    (hhit : ∀ j, j < n → (∀ k, k < j → ¬ p k) → p j → Tri X.E N [] c0 (frm (st j)) (hm j) .ret (frm (rt j)) (hr j))
    (hout : Tri X.E N [] c0 (frm (st n)) (hm n) (.exit id) (frm (st n)) (hm n))
    {r : AV} (hv : noRef r = true) (hs : ∀ i, firstI p n = some i → (runV X (kAt P (st 0) (hm 0) .ret (rt i) (hr i)) fn c args).run = .ok r) (he : firstI p n = none → (runV X (kAt P (st 0) (hm 0) .normal (st n) (hm n)) fn c args).run = .ok r) (h : H) : Con X.E f args h r h := by
  subst hN
  obtain ⟨h1, h2⟩ := find_roundsR (id := id) hgo hhit hout
  cases hf : firstI p n with
  | some i =>
    have hk : KOK X.E (max fn.ntmps args.length) [] c (kAt P (st 0) (hm 0) .ret (rt i) (hr i)) := kAt_ok (by rw [hc]; exact h1 i hf)
    exact Con.pureV g hG hcall hfn hb hname hk hn (hs i hf) (Le.refl _) hv h
  | none =>
    have hk : KOK X.E (max fn.ntmps args.length) [] c (kAt P (st 0) (hm 0) .normal (st n) (hm n)) := kAt_ok (by rw [hc]; exact h2 hf)
    exact Con.pureV g hG hcall hfn hb hname hk hn (he hf) (Le.refl _) hv h
/-- the same, called at a memory that stays. -/
theorem find_fnH {X : SX} (g : Ground X.E) (hcall : CallOK X.E X.calls) {f : FuncId} {fn : Func} (hfn : X.E.P.funcs[f]? = some fn) {c : Code} (hb : fn.body = some c) (hname : (fn.name == "runtime.NumGoroutine") = false) {args : List AV} {h0 : H}
    {N : Nat} (hN : max fn.ntmps args.length = N) (P : List Nat) {id : Nat} {c0 : Code} (hc : sub c P = .block id (.loop c0)) {p : Nat → Prop} {n : Nat} {st : Nat → List (Nat × AV)} {rt : Nat → List (Nat × AV)}
    (hgo : ∀ j, j < n → ¬ p j → Tri X.E N h0 c0 (frm (st j)) h0 .normal (frm (st (j + 1))) h0)
    (hhit : ∀ j, j < n → p j → Tri X.E N h0 c0 (frm (st j)) h0 .ret (frm (rt j)) h0)
    (hout : Tri X.E N h0 c0 (frm (st n)) h0 (.exit id) (frm (st n)) h0)
    {r : AV} (hs : ∀ i, firstI p n = some i → (runF X (kAt P (st 0) h0 .ret (rt i) h0) fn c args h0).run = .ok (r, h0)) (he : firstI p n = none → (runF X (kAt P (st 0) h0 .normal (st n) h0) fn c args h0).run = .ok (r, h0)) : Con X.E f args h0 r h0 := by
  subst hN
  have hT := find_rounds (id := id) hgo hhit hout
  cases hf : firstI p n with
  | some i =>
    rw [hf] at hT
    have hk : KOK X.E (max fn.ntmps args.length) h0 c (kAt P (st 0) h0 .ret (rt i) h0) := kAt_ok (by rw [hc]; exact Tri.block (id := id) (Tri.loop hT))
    exact Con.of_run g hcall hfn hb hname hk (hs i hf)
  | none =>
    rw [hf] at hT
    have hx : AM.X.inBlock id (.exit id) = .normal := by simp [AM.X.inBlock]
    have hk : KOK X.E (max fn.ntmps args.length) h0 c (kAt P (st 0) h0 .normal (st n) h0) := kAt_ok (by rw [hc]; exact hx ▸ Tri.block (id := id) (Tri.loop hT))
    exact Con.of_run g hcall hfn hb hname hk (he hf)
end Go.Proofs.YtcocmlmligjjcaaGreatDoor.AM

/- Closed runs with contracts at a heap ahead of the machine's own calls. -/
namespace Go.Proofs.YtcocmlmligjjcaaGreatDoor.AM
set_option linter.unusedVariables false
set_option linter.unusedSimpArgs false
set_option linter.unusedSectionVars false

def sameHs : H → H → Bool
  | [], [] => true
  | x :: xs, y :: ys => sameBlk (some x) (some y) && sameHs xs ys
  | _, _ => false
theorem sameHs_eq : ∀ {a b : H}, sameHs a b = true → a = b
  | [], [], _ => rfl
  | x :: xs, y :: ys, h => by
    simp only [sameHs, Bool.and_eq_true] at h
    have h1 := sameBlk_eq h.1
    simp only [Option.some.injEq] at h1
    rw [h1, sameHs_eq h.2]
/-- calls: by a table of contracts, each at a heap; else by the machine. -/
def callX (E : Env) (cs : List CH) (n : Nat) : CallF := fun f args h => match cs.find? (fun c => c.f == f && sames args c.args && sameHs h c.h) with
  | some c => .ok (c.r, c.h')
  | none => acall E n f args h
theorem callX_ok {E : Env} (g : Ground E) {cs : List CH} (hcs : ∀ c, c ∈ cs → Con E c.f c.args c.h c.r c.h') (n : Nat) : CallOK E (callX E cs n) := by
  refine callOK_con.2 fun f args h r h' hc => ?_
  unfold callX at hc
  split at hc
  · rename_i c hf
    cases hc
    have hp := List.find?_some hf
    simp only [Bool.and_eq_true, beq_iff_eq] at hp
    obtain ⟨⟨h1, h2⟩, h3⟩ := hp
    rw [← h1, sames_eq' h2, sameHs_eq h3]
    exact hcs c (List.mem_of_find?_eq_some hf)
  · exact Con.of_acall g hc
theorem Tri.of_execC {E : Env} (g : Ground E) {call : CallF} (hcall : CallOK E call) {f : FuncId} {N : Nat} {h0 : H} {c : Code} {τ : Fr} {h : H} {L : List Nat} {x : X} {vs : List AV} {h' : H} (hr : obsR L (exec E f call N c τ h) = .ok (x, vs, h')) : Tri E N h0 c τ h x (AM.frm (L.zip vs)) h' := by
  obtain ⟨⟨x1, τ1, h1⟩, h2, hr⟩ := R.bind_ok hr
  cases hr
  exact .wk .refl (.of_code (fun A s0 nn rd ρ w a hrd hs => exec_wp g.hS g.hC g.hB hcall g.hmix c rd nn τ h x1 τ1 h1 ρ w a hrd h2 hs)) (.frm (look_zip τ1 L))
def X.same : AM.X → AM.X → Bool
  | .normal, .normal => true
  | .ret, .ret => true
  | .exit i, .exit j => i == j
  | _, _ => false
theorem X.same_eq : ∀ {x y : AM.X}, X.same x y = true → x = y
  | .normal, .normal, _ => rfl
  | .ret, .ret, _ => rfl
  | .exit i, .exit j, h => by simp only [X.same, beq_iff_eq] at h; rw [h]
/-- a piece's answer, swept, is as said: what is not kept of its memory need not be written down. -/
def pieceB (L : List Nat) (n0 : Nat) (κ : List Nat) (K : Nat) (x : AM.X) (sl' : List (Nat × AV)) (h' : H) (r : R (AM.X × Fr × H)) : Bool := match r with
  | .ok (y, τ, h) => X.same y x && sweepB n0 κ K (L.zip (L.map τ)) h sl' h' && sl'.all fun p => !isFsl p.2
  | .no _ => false
theorem Tri.of_piece {E : Env} (g : Ground E) (hG : ∀ i cs, E.G i = some cs → noRefs cs = true) {call : CallF} (hcall : CallOK E call) {f : FuncId} {N : Nat} {h0 : H} {c : Code} {τ : Fr} {h : H} {L κ : List Nat} {K : Nat} {x : AM.X} {sl' : List (Nat × AV)} {h' : H}
    (hb : pieceB L h0.length κ K x sl' h' (exec E f call N c τ h) = true) : Tri E N h0 c τ h x (AM.frm sl') h' := by
  cases hr : exec E f call N c τ h with
  | no s => rw [hr] at hb; cases hb
  | ok p =>
    obtain ⟨x1, τ1, h1⟩ := p
    rw [hr] at hb
    simp only [pieceB, Bool.and_eq_true] at hb
    obtain ⟨⟨hx, hs⟩, hf⟩ := hb
    have hx := X.same_eq hx
    subst hx
    have hfl : (sl'.filter fun p => !isFsl p.2) = sl' := List.filter_eq_self.2 fun p hp => List.all_eq_true.1 hf p hp
    have hw := sweep_ok (E := E) (N := N) (h0 := h0) hG hs
    rw [hfl] at hw
    exact .wk .refl (.wk .refl (.of_code (fun A s0 nn rd ρ w a hrd hs => exec_wp g.hS g.hC g.hB hcall g.hmix c rd nn τ h x1 τ1 h1 ρ w a hrd hr hs)) (.frm (look_zip τ1 L))) hw
end Go.Proofs.YtcocmlmligjjcaaGreatDoor.AM

/- Closed runs by the machine's cheap twin. -/
namespace Go.Proofs.YtcocmlmligjjcaaGreatDoor.AM
set_option linter.unusedVariables false
set_option linter.unusedSimpArgs false
set_option linter.unusedSectionVars false
theorem Con.of_acallF {E : Env} (g : Ground E) {n : Nat} {f : FuncId} {args : List AV} {h : H} {r : AV} {h' : H} (hc : acallF E n f args h = .ok (r, h')) : Con E f args h r h' := Con.of_acall g (by rw [← acallF_eq]; exact hc)
theorem Tri.of_execF {E : Env} (g : Ground E) {n : Nat} {f : FuncId} {N : Nat} {h0 : H} {c : Code} {τ : Fr} {h : H} {L : List Nat} {x : X} {vs : List AV} {h' : H} (hr : obsR L (execF E f (acallF E n) N c τ h) = .ok (x, vs, h')) : Tri E N h0 c τ h x (AM.frm (L.zip vs)) h' := Tri.of_exec g (n := n) (by rw [← execF_eq, ← acallF_eq]; exact hr)
theorem Tri.of_pieceF {E : Env} (g : Ground E) (hG : ∀ i cs, E.G i = some cs → noRefs cs = true) {n : Nat} {f : FuncId} {N : Nat} {h0 : H} {c : Code} {τ : Fr} {h : H} {L κ : List Nat} {K : Nat} {x : AM.X} {sl' : List (Nat × AV)} {h' : H}
    (hb : pieceB L h0.length κ K x sl' h' (execF E f (acallF E n) N c τ h) = true) : Tri E N h0 c τ h x (AM.frm sl') h' :=
  Tri.of_piece g hG (call := acall E n) (acall_ok g.hS g.hC g.hB g.hmix n) (by rw [← execF_eq, ← acallF_eq]; exact hb)
/-- a function's own code, its calls by call. -/
noncomputable def bodyE (E : Env) (call : CallF) (f : FuncId) (args : List AV) (h : H) : R (AV × H) := @Option.rec Func (fun _ => R (AV × H)) (.no "func") (fun fn => @Option.rec Code (fun _ => R (AV × H)) (.no ("body " ++ fn.name)) (fun c => iteF (fn.name == "runtime.NumGoroutine") (.no "name") (bodyF E call f args h fn c)) fn.body) (E.P.funcs[f]?)
theorem Con.of_bodyE {E : Env} (g : Ground E) {call : CallF} (hcall : CallOK E call) {f : FuncId} {args : List AV} {h : H} {r : AV} {h' : H} (hc : bodyE E call f args h = .ok (r, h')) : Con E f args h r h' := by
  unfold bodyE at hc
  cases hfn : E.P.funcs[f]? with
  | none => rw [hfn] at hc; cases hc
  | some fn =>
    rw [hfn] at hc
    dsimp only at hc
    cases hb : fn.body with
    | none => rw [hb] at hc; cases hc
    | some c =>
      rw [hb] at hc
      dsimp only at hc
      rw [iteF_eq] at hc
      split at hc
      · cases hc
      · rename_i hname
        unfold bodyF at hc
        rw [bindF_eq, execF_eq, initF_eq] at hc
        obtain ⟨⟨x, τ, h1⟩, h2, hc⟩ := R.bind_ok hc
        dsimp only at hc
        rw [iteF_eq] at hc
        split at hc
        · cases hc
        · rename_i hx
          rw [bindF_eq, resF_eq] at hc
          obtain ⟨ys, h3, hc⟩ := R.bind_ok hc
          have ht : Tri E (max fn.ntmps args.length) h c (initFr args) h x τ h1 := .of_code (fun A s0 nn rd ρ w a hrd hs => exec_wp g.hS g.hC g.hB hcall g.hmix c rd nn (initFr args) h x τ h1 ρ w a hrd h2 hs)
          have hr : r = one ys ∧ h' = h1 := by
            rw [resV_eq] at hc
            cases hc
            refine ⟨?_, rfl⟩
            rcases ys with _ | ⟨v, _ | ⟨u, l⟩⟩ <;> rfl
          obtain ⟨rfl, rfl⟩ := hr
          exact Con.of_tri hfn hb (by simpa using hname) rfl ht (fun i hi => hx (by rw [hi]; rfl)) h3
/-- the machine with a table of contracts ahead of its calls, at any depth. -/
noncomputable def acallT (E : Env) (tab : FuncId → List AV → H → Option (AV × H)) (n : Nat) : CallF := @Nat.rec (fun _ => CallF) (fun _ _ _ => .no "deep") (fun _ ih f args h => @Option.rec (AV × H) (fun _ => R (AV × H)) (bodyE E ih f args h) (fun r => .ok r) (tab f args h)) n
theorem acallT_ok {E : Env} (g : Ground E) {tab : FuncId → List AV → H → Option (AV × H)} (ht : ∀ f args h r h', tab f args h = some (r, h') → Con E f args h r h') (n : Nat) : CallOK E (acallT E tab n) := by
  induction n with
  | zero => intro f args h r h' hc; cases hc
  | succ n ih =>
    refine callOK_con.2 fun f args h r h' hc => ?_
    have hc' : @Option.rec (AV × H) (fun _ => R (AV × H)) (bodyE E (acallT E tab n) f args h) (fun r => .ok r) (tab f args h) = .ok (r, h') := hc
    cases htab : tab f args h with
    | none => rw [htab] at hc'; exact Con.of_bodyE g ih hc'
    | some p =>
      rw [htab] at hc'
      cases hc'
      exact ht f args h r h' htab
theorem Tri.of_pieceT {E : Env} (g : Ground E) (hG : ∀ i cs, E.G i = some cs → noRefs cs = true) {call : CallF} (hcall : CallOK E call) {f : FuncId} {N : Nat} {h0 : H} {c : Code} {τ : Fr} {h : H} {L κ : List Nat} {K : Nat} {x : AM.X} {sl' : List (Nat × AV)} {h' : H}
    (hb : pieceB L h0.length κ K x sl' h' (execF E f call N c τ h) = true) : Tri E N h0 c τ h x (AM.frm sl') h' :=
  Tri.of_piece g hG hcall (by rw [← execF_eq]; exact hb)
/-- closed callees, each at its arguments, from no memory. -/
structure CB where
  f : FuncId
  args : List AV
  r : AV
  h : H
def noHoleB (x : Blk) : Bool := match x with | .hole => false | _ => true
theorem noHole {h : H} (hb : h.all noHoleB = true) : ∀ x, x ∈ h → x ≠ .hole := by
  intro x hx e
  subst e
  have := List.all_eq_true.1 hb _ hx
  cases this
def CB.Ok (E : Env) (c : CB) : Prop := Con E c.f c.args [] c.r c.h ∧ noRefs c.args = true ∧ c.h.all noHoleB = true
noncomputable def tabB (cs : List CB) : FuncId → List AV → H → Option (AV × H) := fun f args h =>
  @List.rec CB (fun _ => Option (AV × H)) none (fun c _ ih => iteF (andF (Nat.beq c.f f) (sames (forgets args) c.args)) (some (ren (· + h.length) c.r, appF h (c.h.map (renB (· + h.length))))) ih) cs
theorem tabB_ok {E : Env} (hG : ∀ i cs, E.G i = some cs → noRefs cs = true) : ∀ {cs : List CB}, (∀ c, c ∈ cs → c.Ok E) → ∀ f args h r h', tabB cs f args h = some (r, h') → Con E f args h r h' := by
  intro cs
  induction cs with
  | nil => intro _ f args h r h' hc; cases hc
  | cons c cs ih =>
    intro hcs f args h r h' hc
    have hc' : iteF (andF (Nat.beq c.f f) (sames (forgets args) c.args)) (some (ren (· + h.length) c.r, appF h (c.h.map (renB (· + h.length))))) (tabB cs f args h) = some (r, h') := hc
    rw [iteF_eq, andF_eq, appF_eq] at hc'
    split at hc'
    · rename_i hp
      simp only [Bool.and_eq_true, Nat.beq_eq] at hp
      obtain ⟨k1, k2, k3⟩ := hcs c (List.mem_cons_self ..)
      cases hc'
      have := Con.lift hG k1 k2 (noHole k3) h
      rw [← sames_eq' hp.2, hp.1] at this
      exact this.args (Les.forgets args)
    · exact ih (fun c hc => hcs c (List.mem_cons_of_mem _ hc)) f args h r h' hc'
def isTrueR : R (AV × H) → Bool
  | .ok (.bool true, _) => true
  | _ => false
theorem isTrueR_ok {x : R (AV × H)} (h : isTrueR x = true) : ∃ h', x = .ok (.bool true, h') := by
  cases x with
  | no s => cases h
  | ok p =>
    obtain ⟨v, h1⟩ := p
    cases v with
    | bool b => cases b with
      | true => exact ⟨h1, rfl⟩
      | false => cases h
    | _ => cases h
/-- a closed call that answers true does so in whatever memory. -/
theorem Con.known {E : Env} (g : Ground E) (hG : ∀ i cs, E.G i = some cs → noRefs cs = true) {cs : List CB} (hcs : ∀ c, c ∈ cs → c.Ok E) {n : Nat} {f : FuncId} (hr : isTrueR (acallT E (tabB cs) n f [] []) = true) (h : H) : Con E f [] h (.bool true) h := by
  obtain ⟨h1, hr⟩ := isTrueR_ok hr
  exact Con.base hG (acallT_ok g (tabB_ok hG hcs) n f [] [] _ _ hr) rfl rfl h
end Go.Proofs.YtcocmlmligjjcaaGreatDoor.AM
