/- The abstract machine: operations that look into memory are run by the model as the machine runs them. -/
import Derived.Test.YthfkkflogbibfaaGreatDoorA6
namespace Go.Proofs.YthfkkflogbibfaaGreatDoor.AM
set_option linter.unusedSectionVars false
set_option linter.unusedVariables false
set_option linter.unusedSimpArgs false

section
variable {F : Area} {ρ : Rho} {w : World}

theorem loadVar_run {P : Program} {t : TypeId} {cs : List AV} {off : Nat} {y : AV} (h : partA P t cs off = .ok y) {B base : Nat} {arr : Array Value} {e : TypeId} {fz : Nat × Nat} (hb : w.heap[B]? = some (.cells arr e fz))
    (hc : ∀ j z, cs[j]? = some z → ∃ v, arr[base + j]? = some v ∧ CR F ρ w v z) :
    ∃ v, (loadVar t ⟨B, base + off, none⟩).run P w = .ok v w ∧ CR F ρ w v y := by
  have hcell : ∀ j, w.cell? ⟨B, j, none⟩ = arr[j]? := fun j => by simp [World.cell?, hb]
  obtain ⟨b, hb', h⟩ := R.bind_ok h
  unfold loadVar
  rw [Sem.run_bind, run_isAgg hb', Result.andThen_ok]
  cases b with
  | true =>
    simp only [if_true] at h ⊢
    obtain ⟨s, hs, h⟩ := R.bind_ok h
    split at h <;> cases h
    rename_i hle
    have hget : ∀ j, j < s → ∃ v z, arr[base + off + j]? = some v ∧ cs[off + j]? = some z ∧ CR F ρ w v z := fun j hj => by
      obtain ⟨z, hz⟩ : ∃ z, cs[off + j]? = some z := ⟨_, List.getElem?_eq_getElem (by omega)⟩
      obtain ⟨v, hv, hcr⟩ := hc _ z hz
      exact ⟨v, z, by rw [Nat.add_assoc]; exact hv, hz, hcr⟩
    have hl := run_loadCells (P := P) w ⟨B, base + off, none⟩ s (fun j => arr.getD (base + off + j) Go.undef) (fun j hj => by
      obtain ⟨v, z, hv, _⟩ := hget j hj
      rw [add0, hcell]; simp [Array.getD_eq_getD_getElem?, hv])
    refine ⟨_, by simp [run_size hs, hl]; rfl, .agg_of ⟨by simp; omega, fun j v z hv hz => ?_⟩⟩
    simp only [List.getElem?_map] at hv
    have hj : j < s := by
      have := lt_of_getl hz
      simp at this; omega
    rw [List.getElem?_range hj] at hv
    rw [List.getElem?_take, if_pos hj, List.getElem?_drop] at hz
    obtain ⟨v', z', hv', hz', hcr⟩ := hget j hj
    rw [hz] at hz'; cases hz'
    simp [Array.getD_eq_getD_getElem?, hv'] at hv
    subst hv; exact hcr
  | false =>
    simp only [Bool.false_eq_true, if_false] at h ⊢
    obtain ⟨v, hv, hcr⟩ := hc _ _ (lift_ok h)
    exact ⟨v, by rw [run_load, hcell, hv], hcr⟩

theorem CRs.cell {vs : Array Value} {l : List AV} (h : CRs F ρ w vs.toList l) : ∀ j z, l[j]? = some z → ∃ v, vs[0 + j]? = some v ∧ CR F ρ w v z := fun j z hz => by
  obtain ⟨v, hv, hc⟩ := h.get hz
  rw [Array.getElem?_toList] at hv
  exact ⟨v, by rw [Nat.zero_add]; exact hv, hc⟩
theorem Elems.cell {cs : Array Value} {o sz : Nat} {l : List AV} (h : Elems F ρ w cs o sz l) {i : Nat} {x : AV} (hx : l[i]? = some x) : ∀ j z, x.cells[j]? = some z → ∃ v, cs[o + i * sz + j]? = some v ∧ CR F ρ w v z := fun j z hz => by
  have hj := lt_of_getl hz
  rw [h.1 x (List.mem_of_getElem? hx)] at hj
  have hf := flat_get h.1 hx hj
  rw [hz] at hf
  obtain ⟨v, hv, hc⟩ := h.2.get hf
  refine ⟨v, ?_, hc⟩
  rw [List.getElem?_take] at hv
  split at hv
  · rw [List.getElem?_drop, Array.getElem?_toList, ← Nat.add_assoc] at hv; exact hv
  · cases hv

variable {G : Nat → Option (List AV)} {A : Area} {g : View}

theorem loadA_run {P : Program} {h : H} {t : TypeId} {p y : AV} (hl : loadA P h t p = .ok y) (hr : HR G A ρ w g) (hd : ∀ b, depOf p = some b → g b = h[b]?) {v : Value} (hc : CR (Forb A ρ g) ρ w v p) :
    ∃ r, (Instr.loadAt t v).run P w = .ok r w ∧ CR (Forb A ρ g) ρ w r y := by
  cases hc with
  | @ptr b B off hb0 =>
    simp only [loadA] at hl
    split at hl
    · rename_i cs hcs
      obtain ⟨B', k, h1, _, h2⟩ := hr.blk b _ ((hd b rfl).trans hcs) nofun
      rw [hb0] at h1; cases h1
      obtain ⟨_, vs, e, fz, h3, _, h5⟩ := h2
      obtain ⟨r, hr', hcr⟩ := loadVar_run hl h3 (base := 0) h5.cell
      rw [Nat.zero_add] at hr'
      exact ⟨r, by simp [Instr.loadAt, Instr.sureAddr, hr'], hcr⟩
    · cases hl
  | @eptr b B i sz off o hb0 ho =>
    simp only [loadA] at hl
    split at hl
    · rename_i sz' l hcs
      split at hl
      · rename_i x hx
        split at hl
        · rename_i hsz
          obtain ⟨B', k, h1, _, h2⟩ := hr.blk b _ ((hd b rfl).trans hcs) nofun
          rw [hb0] at h1; cases h1
          obtain ⟨_, vs, e, fz, h3, _, _, h5⟩ := h2
          subst hsz
          obtain ⟨r, hr', hcr⟩ := loadVar_run hl h3 (base := 0 + i * sz) (h5.cell hx)
          rw [Nat.zero_add, ← ho] at hr'
          exact ⟨r, by simp [Instr.loadAt, Instr.sureAddr, hr'], hcr⟩
        · cases hl
      · cases hl
    · cases hl
  | @fp B base off o cs e fz l hb hF vs h1 h2 ho =>
    subst ho
    obtain ⟨r, hr', hcr⟩ := loadVar_run (F := Forb A ρ g) (ρ := ρ) hl hb (base := base) (fun j z hz => ⟨vs j, h1 j z hz, h2 j z hz⟩)
    exact ⟨r, by simp [Instr.loadAt, Instr.sureAddr, hr'], hcr⟩
  | _ => cases hl

theorem leaf_cells {y : AV} (h : y.leaf = true) : y.cells = [y] := by cases y <;> simp [AV.leaf] at h <;> rfl
theorem flat_leaf {l : List AV} (h : ∀ y, y ∈ l → y.leaf = true) : flat l = l := by
  induction l with
  | nil => rfl
  | cons y l ih =>
    have := ih (fun z hz => h z (List.mem_cons_of_mem _ hz))
    show y.cells ++ flat l = _
    rw [leaf_cells (h y (List.mem_cons_self ..)), this]; rfl

/-! ## the elements that a slice shows -/
theorem elemsA_run {h : H} {x : AV} {l : List AV} (he : elemsA h x = .ok l) (hr : HR G A ρ w g) (hd : ∀ b, depOf x = some b → g b = h[b]?) {v : Value} (hc : CR (Forb A ρ g) ρ w v x) {s : Nat} (hs : szA x s = true) :
    (∀ y, y ∈ l → y.cells.length = s) ∧ ((l = [] ∧ ∃ b, v = .slice b 0 0) ∨ ∃ B o c cs e fz, v = .slice (some ⟨B, o, none⟩) l.length c ∧ l.length ≤ c ∧ w.heap[B]? = some (.cells cs e fz) ∧ (0 < l.length → Elems (Forb A ρ g) ρ w cs o s l)) := by
  cases hc with
  | nils => cases he; exact ⟨fun y hy => by simp at hy, .inl ⟨rfl, _, rfl⟩⟩
  | lst0 => cases he; exact ⟨fun y hy => by simp at hy, .inl ⟨rfl, _, rfl⟩⟩
  | @lst B o n c sz cs e fz ls tl hb hn hsz hF vs g1 g2 hl hr' hc' ht =>
    have hcr : CR (Forb A ρ g) ρ w (.slice (some ⟨B, o, none⟩) n c) (.lst sz ls tl) := .lst hb hn hsz hF vs g1 g2 hl hr' hc' ht
    cases he
    have hss : sz = s := by simpa [szA] using hs
    subst hss
    obtain ⟨B', o', c', cs', e', fz', heq, hb', _, hel, hlc, _⟩ := CR.lst_parts hb hn hsz hF vs g1 g2 hl hr' hc' ht
    cases heq
    exact ⟨hsz, .inr ⟨_, _, _, cs', e', fz', rfl, hlc, hb', fun _ => hel⟩⟩
  | @sl b B o off len sz c clip cs e fz hb0 hb hr' hl hc' ho =>
    have hss : sz = s := by simpa [szA] using hs
    subst hss
    simp only [elemsA] at he
    split at he
    · rename_i sz' ls hls
      split at he
      · rename_i hcond
        cases he
        obtain ⟨rfl⟩ := hcond.2
        obtain ⟨B', k, h1, _, h2⟩ := hr.blk b _ ((hd b rfl).trans hls) nofun
        rw [hb0] at h1; cases h1
        obtain ⟨_, vs, e', fz', h3, _, _, h5⟩ := h2
        have hlen : ((ls.drop off).take len).length = len := by simp; omega
        refine ⟨fun y hy => h5.1 y (List.mem_of_mem_drop (List.mem_of_mem_take hy)), .inr ⟨B, o, c, vs, e', fz', by rw [hlen], by omega, h3, fun hpos => ?_⟩⟩
        have := h5.cut off len
        rw [hlen] at hpos
        rcases ho with h' | h'
        · omega
        · rw [h']; simpa using this
      · cases he
    · cases he
  | @vsl b B o off len c clip hb0 hl hc' ho =>
    have hss : s = 1 := by simpa [szA] using hs
    subst hss
    simp only [elemsA] at he
    split at he
    · rename_i ls hls
      split at he
      · rename_i hcond
        cases he
        obtain ⟨B', k, h1, _, h2⟩ := hr.blk b _ ((hd b rfl).trans hls) nofun
        rw [hb0] at h1; cases h1
        obtain ⟨_, vs, e', fz', h3, _, h5⟩ := h2
        have hlen : ((ls.drop off).take len).length = len := by simp; omega
        have hlf : ∀ y, y ∈ (ls.drop off).take len → y.leaf = true := by simpa [List.all_eq_true] using hcond.2
        refine ⟨fun y hy => by rw [leaf_cells (hlf y hy)]; rfl, .inr ⟨B, o, c, vs, e', fz', by rw [hlen], by omega, h3, fun hpos => ⟨fun y hy => by rw [leaf_cells (hlf y hy)]; rfl, ?_⟩⟩⟩
        rw [hlen] at hpos
        have h6 : o = off := by rcases ho with h' | h' <;> omega
        rw [flat_leaf hlf, hlen, Nat.mul_one, h6]
        exact (h5.drop off).take len
      · cases he
    · cases he
  | _ => cases he

/-! ## bytes as a text -/
theorem bytes_loop {P : Program} (body : Value → ByteArray → Sem (ForInStep ByteArray)) (hb : ∀ n s, body (.int .u8 n) s = pure (.yield (s.push (UInt8.ofNat n.toNat)))) : ∀ {vs : List Value} {l : List AV} {bs : List UInt8} (s : ByteArray), toBytes l = .ok bs → CRs F ρ w vs l →
    (forIn vs s body).run P w = .ok ⟨s.data ++ bs.toArray⟩ w
  | vs, [], bs, s, h, hc => by
    obtain rfl : vs = [] := List.eq_nil_of_length_eq_zero hc.1
    cases h; simp
  | vs, y :: l, bs, s, h, hc => by
    cases vs with
    | nil => have := hc.1; simp at this
    | cons v vs =>
      have h0 := hc.head
      unfold toBytes at h
      split at h
      · rename_i heq; cases heq
      · rename_i n l' heq
        cases heq
        obtain ⟨r, hr, h⟩ := R.bind_ok h
        cases h
        cases h0
        have ih := bytes_loop (P := P) body hb (s.push (UInt8.ofNat n.toNat)) hr hc.tail
        rw [List.forIn_cons, hb]
        simp only [Sem.run_bind, Sem.run_pure, Result.andThen_ok, ih]
        congr 2
        apply Array.ext'
        simp [ByteArray.push]
      · cases h

theorem cells_at {cs : Array Value} {o : Nat} {l : List AV} (h : CRs F ρ w ((cs.toList.drop o).take l.length) l) {B : Nat} {e : TypeId} {fz : Nat × Nat} (hb : w.heap[B]? = some (.cells cs e fz)) {P : Program} :
    (loadCells ⟨B, o, none⟩ l.length).run P w = .ok ((cs.toList.drop o).take l.length).toArray w := by
  have hl : ((cs.toList.drop o).take l.length).length = l.length := h.1
  have := run_loadCells_list (P := P) w ⟨B, o, none⟩ ((cs.toList.drop o).take l.length) (fun j v hv => by
    rw [add0]
    rw [List.getElem?_take] at hv
    split at hv
    · rw [List.getElem?_drop, Array.getElem?_toList] at hv
      simp [World.cell?, hb, hv]
    · cases hv)
  rw [hl] at this; exact this

/-! ## keys -/
theorem keyAF {P : Program} : ∀ n,
    (∀ t x, keyA P n t x = true → ∀ D, n ≤ D → ∀ (F : Area) (ρ : Rho) (w : World) (em : Bool) v, CR F ρ w v x → (Instr.checkKey em D t v).run P w = .ok () w) ∧
    (∀ fs cs, keyF P n fs cs = true → ∀ D, n ≤ D → ∀ (F : Area) (ρ : Rho) (w : World) (em : Bool) (vs : Array Value), CRs F ρ w vs.toList cs →
      (forIn fs PUnit.unit (fun f _ => do
        if f.name ≠ "_" then do Instr.checkKey em D f.type (← part f.type vs f.offset)
        pure (.yield PUnit.unit) : Field → PUnit → Sem (ForInStep PUnit))).run P w = .ok PUnit.unit w) := by
  intro n
  induction n with
  | zero => exact ⟨fun t x h => by simp [keyA] at h, fun fs cs h => by simp [keyF] at h⟩
  | succ n ih =>
    refine ⟨fun t x h D hD F ρ w em v hc => ?_, fun fs cs h D hD F ρ w em vs hc => ?_⟩
    · obtain ⟨D, rfl⟩ : ∃ d, D = d + 1 := ⟨D - 1, by omega⟩
      unfold keyA at h
      split at h
      · rename_i hd; simp [Instr.checkKey, run_underlying hd]
      · rename_i hd; simp [Instr.checkKey, run_underlying hd]
      · rename_i hd; simp [Instr.checkKey, run_underlying hd]
      · rename_i fs cs hd
        obtain ⟨vs, rfl, hcs⟩ := hc.agg_inv
        have := ih.2 _ _ h D (by omega) F ρ w em vs hcs
        simp only [Instr.checkKey, Sem.run_bind, run_underlying hd, Result.andThen_ok]
        rw [← Array.forIn_toList]
        exact (congrArg (fun r => Result.andThen r (fun _ w' => Sem.run P (pure ()) w')) this).trans rfl
      · cases h
    · cases fs with
      | nil => simp
      | cons f fs =>
        unfold keyF at h
        split at h
        · rename_i v hv
          simp only [Bool.and_eq_true] at h
          obtain ⟨u, hu, hcu⟩ := partA_cr hv hc
          have h1 := ih.1 _ _ h.1 D (by omega) F ρ w em u hcu
          have h2 := ih.2 _ _ h.2 D (by omega) F ρ w em vs hc
          simp only [List.forIn_cons, Sem.run_bind, Sem.run_ite, hu, h1, Result.andThen_ok, Sem.run_pure]
          split <;> simp only [Result.andThen_ok] <;> exact h2
        · cases h
end
end Go.Proofs.YthfkkflogbibfaaGreatDoor.AM
