/- The abstract machine: operations that make memory. -/
import Derived.Test.YthfkkflogbibfaaGreatDoorA9
import Derived.IntWalk
namespace Go.Proofs.YthfkkflogbibfaaGreatDoor.AM
set_option linter.unusedSectionVars false
set_option linter.unusedVariables false
set_option linter.unusedSimpArgs false

section
variable {F : Area} {ρ : Rho} {w : World}

theorem setCells_eq : ∀ (xs cs : List AV) (off : Nat), off + xs.length ≤ cs.length → setCells cs off xs = cs.take off ++ xs ++ cs.drop (off + xs.length)
  | [], cs, off, h => by simp [setCells]
  | x :: xs, cs, off, h => by
    simp only [setCells]
    simp only [List.length_cons] at h
    rw [setCells_eq xs (cs.set off x) (off + 1) (by simp; omega)]
    rw [List.take_set, List.drop_set_of_lt (by omega)]
    have h1 : (cs.take (off + 1)).set off x = cs.take off ++ [x] := by
      rw [List.take_succ_eq_append_getElem (by omega), List.set_append_right _ _ (by simp; omega)]
      simp [Nat.min_eq_left (show off ≤ cs.length by omega)]
    rw [h1]
    simp [Nat.add_assoc, Nat.add_comm 1]

theorem setCells_flat {l : List AV} {sz i : Nat} {v : AV} (h : ∀ x, x ∈ l → x.cells.length = sz) (hv : v.cells.length = sz) (hi : i < l.length) : setCells (flat l) (i * sz) v.cells = flat (l.set i v) := by
  have hle : i * sz + sz ≤ l.length * sz := by have := Nat.mul_le_mul_right sz (show i + 1 ≤ l.length from hi); rw [Nat.add_mul] at this; omega
  rw [setCells_eq _ _ _ (by rw [flat_length h, hv]; exact hle), hv, flat_take h]
  have : i * sz + sz = (i + 1) * sz := by rw [Nat.add_mul]; omega
  rw [this, flat_drop h, List.set_eq_take_append_cons_drop, if_pos hi, flat_append]
  show _ = _ ++ (v.cells ++ flat _)
  rw [List.append_assoc]

theorem mem_set {l : List AV} {i : Nat} {v x : AV} (h : x ∈ l.set i v) : x = v ∨ x ∈ l := by
  rcases List.mem_or_eq_of_mem_set h with h | h
  · exact .inr h
  · exact .inl h

theorem fillE_fillA {sz : Nat} : ∀ {parts : List (Nat × AV)} {l l' : List AV}, fillE sz l parts = .ok l' → (∀ x, x ∈ l → x.cells.length = sz) →
    fillA (fun i => some (i * sz, sz)) (flat l) parts = .ok (flat l') ∧ (∀ x, x ∈ l' → x.cells.length = sz) ∧ l'.length = l.length
  | [], l, l', h, hs => by cases h; exact ⟨rfl, hs, rfl⟩
  | (i, v) :: parts, l, l', h, hs => by
    simp only [fillE] at h
    split at h
    · rename_i hc
      have hle : i * sz + sz ≤ l.length * sz := by have := Nat.mul_le_mul_right sz (show i + 1 ≤ l.length from hc.2); rw [Nat.add_mul] at this; omega
      obtain ⟨h1, h2, h3⟩ := fillE_fillA h (fun x hx => by
        rcases mem_set hx with rfl | hx
        · exact hc.1
        · exact hs x hx)
      refine ⟨?_, h2, by rw [h3]; simp⟩
      simp only [fillA]
      rw [if_pos ⟨hc.1, by rw [flat_length hs]; exact hle⟩, setCells_flat hs hc.1 hc.2]
      exact h1
    · cases h

theorem replicate_sz {n sz : Nat} {z : AV} (hz : z.cells.length = sz) : ∀ x, x ∈ List.replicate n z → x.cells.length = sz := fun x hx => by rw [(List.mem_replicate.1 hx).2]; exact hz

theorem zeros_cr {n sz : Nat} {zc : Array Value} {z : AV} (h : CRs F ρ w zc.toList z.cells) (hz : z.cells.length = sz) :
    CRs F ρ w ((Array.range (n * sz)).map (fun i => zc[i % zc.size]!)).toList (flat (List.replicate n z)) := by
  have hzs : zc.size = sz := by have := h.1; simp at this; omega
  refine ⟨by rw [flat_length (replicate_sz hz)]; simp, fun q v y hv hy => ?_⟩
  obtain ⟨i, j, x, rfl, hx, hxy⟩ := flat_split (replicate_sz hz) hy
  have hj := lt_of_getl hxy
  have hxz : x = z := (List.mem_replicate.1 (List.mem_of_getElem? hx)).2
  subst hxz
  rw [hz] at hj
  have hi := lt_of_getl hx
  simp only [List.length_replicate] at hi
  have hq : i * sz + j < n * sz := by have := Nat.mul_le_mul_right sz (show i + 1 ≤ n from hi); rw [Nat.add_mul] at this; omega
  rw [Array.getElem?_toList, Array.getElem?_map, Array.getElem?_range, if_pos hq] at hv
  simp only [Option.map_some, Option.some.injEq] at hv
  have hm : (i * sz + j) % zc.size = j := by rw [hzs, Nat.mul_comm, Nat.mul_add_mod, Nat.mod_eq_of_lt hj]
  rw [hm] at hv
  obtain ⟨u, hu, hc⟩ := h.get hxy
  rw [Array.getElem?_toList] at hu
  have : zc[j]! = u := by
    have := lt_of_get hu
    rw [getElem!_pos zc j this]
    rw [Array.getElem?_eq_getElem this] at hu
    exact Option.some.inj hu
  rw [← hv, this]; exact hc

/-! ## a new slice -/
variable {G : Nat → Option (List AV)} {A : Area} {g : View} {w' : World}

theorem newSl_ok (E : Env) (f : FuncId) (dst : Option Nat) {id : Nat} (hr : HR G A ρ w g) (hid : ρ id = none) {cs : Array Value} {e : TypeId} {fz : Nat × Nat} (hw : w'.heap = w.heap.push (.cells cs e fz)) (hst : SameS w w') (hfz : Thawed fz 0 cs.size) {sz : Nat} {l : List AV}
    (hel : Elems (Forb A ρ g) ρ w cs 0 sz l) {c : Nat} (hl : l.length ≤ c) (hc : c * sz ≤ cs.size) : ∃ k,
    Ext (Own ρ g) ρ w (Own (setR ρ id (w.heap.size, k)) (setG g id (newSl E f dst id sz l).2)) (setR ρ id (w.heap.size, k)) w' ∧
    HR G A (setR ρ id (w.heap.size, k)) w' (setG g id (newSl E f dst id sz l).2) ∧
    CR (Forb A (setR ρ id (w.heap.size, k)) (setG g id (newSl E f dst id sz l).2)) (setR ρ id (w.heap.size, k)) w' (.slice (some ⟨w.heap.size, 0, none⟩) l.length c) (newSl E f dst id sz l).1 := by
  have hb : w'.heap[w.heap.size]? = some (.cells cs e fz) := by rw [hw]; simp
  have hlc := Nat.mul_le_mul_right sz hl
  cases hlb : locB E f dst
  case true =>
    rw [show newSl E f dst id sz l = (.sl id 0 l.length sz false, .arr sz l) by simp [newSl, hlb]]
    obtain ⟨h1, h2⟩ := hr.alloc (w' := w') hid hw hst 0 (.arr sz l)
    refine ⟨0, h1, h2 ⟨rfl, cs, e, fz, hb, hfz, by omega, hel.mono h1.sub h1.keeps⟩, ?_⟩
    exact .sl (by simp [setR]) hb (by rw [Nat.zero_add]; exact hc) hl (fun h => by cases h) (.inr (by simp))
  case false =>
    rw [show newSl E f dst id sz l = (.lst sz l (.own id), .tail) by simp [newSl, hlb]]
    obtain ⟨h1, h2⟩ := hr.alloc (w' := w') hid hw hst (l.length * sz) .tail
    refine ⟨l.length * sz, h1, h2 ⟨cs, e, fz, hb, fun off h1 h2 => hfz off (Nat.zero_le _) h2⟩, ?_⟩
    refine .lst_of hb (fun j hj => ?_) (hel.mono h1.sub h1.keeps) hl (by omega) (fun h => by cases h) (fun t ht _ => by cases ht; simp [setR])
    rintro (⟨b, k, y, hb', hy, hal, hk⟩ | ha)
    · simp only [setR, setG] at hb' hy
      split at hb'
      · cases hb'; omega
      · have := hr.lt hb'; omega
    · have := (hr.avo _ _ ha).1; omega

theorem thawed0 (n : Nat) : Thawed (0, 0) 0 n := fun off _ _ h => by omega

variable {E : Env} {a : Act} {τ : Fr}

theorem elems_of_crs {cs : Array Value} {sz : Nat} {l : List AV} (hs : ∀ x, x ∈ l → x.cells.length = sz) (h : CRs F ρ w cs.toList (flat l)) : Elems F ρ w cs 0 sz l := by
  refine ⟨hs, ?_⟩
  have : cs.toList.length = l.length * sz := by rw [h.1, flat_length hs]
  rw [List.drop_zero, List.take_of_length_le (by omega)]; exact h

theorem push_modify (h : Array Obj) (o : Obj) (f : Obj → Obj) : (h.push o).modify h.size f = h.push (f o) := by
  apply Array.ext_getElem?
  intro i
  rw [Array.getElem?_modify, Array.getElem?_push, Array.getElem?_push]
  by_cases hi : h.size = i
  · subst hi; simp
  · rw [if_neg hi, if_neg (fun e => hi e.symm), if_neg (fun e => hi e.symm)]

/-- the cells of a text, and spare ones. -/
def byteRow (s : ByteArray) (n : Nat) : Array Value := (s.data.map fun (b : UInt8) => Value.int .u8 b.toNat) ++ Array.replicate n (Value.int .u8 0)

theorem range0 {β : Type} (f : Nat → β) : Array.map f (Array.range 0) = #[] := by apply Array.ext'; simp
theorem run_size_of {P : Program} {t : TypeId} {i : TypeInfo} (h : info P t = .ok i) (w : World) : (sizeOf t).run P w = .ok i.size w := by simp [sizeOf, typeInfo, info_ok h]

theorem allocA_run (hr : HR E.G A ρ w g) (hf : FRel (Forb A ρ g) ρ w a.tmps τ) {f : FuncId} {id : Nat} (hid : ρ id = none) {o : Oper} {y : AV} {x : Blk} (h : allocA E f τ id o = .ok (y, x)) :
    ∃ v w' k, (execOp a.eval o).run E.P w = .ok (.value v) w' ∧
      Ext (Own ρ g) ρ w (Own (setR ρ id (w.heap.size, k)) (setG g id x)) (setR ρ id (w.heap.size, k)) w' ∧ HR E.G A (setR ρ id (w.heap.size, k)) w' (setG g id x) ∧
      CR (Forb A (setR ρ id (w.heap.size, k)) (setG g id x)) (setR ρ id (w.heap.size, k)) w' v y := by
  have hg := hr.glob'
  unfold execOp
  cases ho : o.op with
  | alloc t =>
    simp only [allocA, ho] at h
    obtain ⟨z, hz, h⟩ := R.bind_ok h
    cases h
    obtain ⟨zv, hzr, hzo⟩ := run_zero hz w
    have hzc := (ofV_cr (F := Forb A ρ g) (ρ := ρ) (w := w) hzo).cells
    obtain ⟨h1, h2⟩ := hr.alloc (w' := { w with heap := w.heap.push (.cells zv.cells t) }) hid rfl ⟨rfl, rfl, rfl⟩ 0 (.var z.cells)
    refine ⟨.pointer (some ⟨w.heap.size, 0, none⟩), _, 0, ?_, h1, h2 ⟨rfl, zv.cells, t, (0, 0), by simp, thawed0 _, hzc.mono h1.sub h1.keeps⟩, .ptr (by simp [setR])⟩
    simp [Instr.alloc, hzr, newVar, newRow]
  | box t b =>
    simp only [allocA, ho] at h
    obtain ⟨v, hv, h⟩ := R.bind_ok h
    split at h <;> cases h
    have hzc := (ev_cr hf hg hv).cells
    obtain ⟨h1, h2⟩ := hr.alloc (w' := { w with heap := w.heap.push (.cells (a.eval b).cells t) }) hid rfl ⟨rfl, rfl, rfl⟩ 0 (.var v.cells)
    refine ⟨.pointer (some ⟨w.heap.size, 0, none⟩), _, 0, ?_, h1, h2 ⟨rfl, _, t, (0, 0), by simp, thawed0 _, hzc.mono h1.sub h1.keeps⟩, .ptr (by simp [setR])⟩
    simp [Instr.box, newVar, newRow]
  | makeMap t r =>
    cases r with
    | some r => simp only [allocA, ho] at h; cases h
    | none =>
      simp only [allocA, ho] at h
      cases h
      obtain ⟨h1, h2⟩ := hr.alloc (w' := { w with heap := w.heap.push (.map #[] 0) }) hid rfl ⟨rfl, rfl, rfl⟩ 0 (.map [])
      refine ⟨.map (some w.heap.size), _, 0, ?_, h1, h2 ⟨rfl, #[], 0, by simp, rfl, fun i e x h => by simp at h⟩, .map (by simp [setR])⟩
      simp [Instr.makeMap]
  | buildSlice t n parts =>
    simp only [allocA, ho] at h
    obtain ⟨vs, hvs, h⟩ := R.bind_ok h
    obtain ⟨d, hd, h⟩ := R.bind_ok h
    split at h
    · rename_i e
      obtain ⟨sz, hsz, h⟩ := R.bind_ok h
      obtain ⟨z, hz, h⟩ := R.bind_ok h
      split at h
      · rename_i hc
        obtain ⟨l, hl, h⟩ := R.bind_ok h
        have h := R.ok.inj h
        obtain ⟨h1, h2⟩ := parts_cr hf hg hvs
        obtain ⟨g1, g2, g3⟩ := fillE_fillA hl (replicate_sz hc.1)
        obtain ⟨i, zv, hi, hzv, hzo⟩ := zero_info hz
        obtain ⟨i', hi', hsz'⟩ := size_info hsz
        rw [hi] at hi'; cases hi'
        have hzc := (ofV_cr (F := Forb A ρ g) (ρ := ρ) (w := w) hzo).cells
        have hzz := zeros_cr (n := n) hzc hc.1
        obtain ⟨cs', hfill, hcr⟩ := fillA_run g1 h1 h2 hzz
        have hsize : cs'.size = n * sz := by
          have := hcr.1
          rw [flat_length g2, g3] at this
          simpa using this
        have hrun : (Instr.buildSlice t n (parts.map fun (i, x) => (i, a.eval x))).run E.P w = .ok (.slice (some ⟨w.heap.size, 0, none⟩) n n) { w with heap := w.heap.push (.cells cs' e) } := by
          have hzr : (zeroValue e).run E.P w = .ok zv w := by simp [zeroValue, typeInfo, hi, hzv]
          have e24 : ¬ (n * sz > 2 ^ 24) := by have := hc.2; omega
          simp only [Instr.buildSlice, Sem.run_bind, run_under hd, Result.andThen_ok, run_size hsz, Sem.run_ite, if_neg e24, Sem.run_pure]
          by_cases h0 : n * sz = 0
          · simp only [h0, if_true]
            have hz0 : (Array.map (fun x => (#[] : Array Value)[x % (#[] : Array Value).size]!) (Array.range 0)) = ((Array.range (n * sz)).map (fun i => zv.cells[i % zv.cells.size]!)) := by rw [h0, range0, range0]
            have hfill' : Instr.fill (fun i => some (i * sz, sz)) ((Array.range (n * sz)).map (fun i => zv.cells[i % zv.cells.size]!)) (Array.map (fun x => (x.fst, a.eval x.snd)) parts).toList = some cs' := hfill
            rw [hz0, hfill']
            simp [newRow]
          · simp only [if_neg h0, Sem.run_bind, hzr, Result.andThen_ok, Sem.run_pure]
            have hfill' : Instr.fill (fun i => some (i * sz, sz)) (Array.map (fun x => zv.cells[x % zv.cells.size]!) (Array.range (n * sz))) (Array.map (fun x => (x.fst, a.eval x.snd)) parts).toList = some cs' := hfill
            rw [hfill']
            simp [newRow]
        obtain ⟨k, k1, k2, k3⟩ := newSl_ok E f o.dst (w' := { w with heap := w.heap.push (.cells cs' e) }) hr hid rfl ⟨rfl, rfl, rfl⟩ (thawed0 _) (elems_of_crs g2 hcr) (c := n) (by rw [g3]; simp) (by rw [hsize]; exact Nat.le_refl _)
        rw [g3, List.length_replicate, h] at k3
        rw [h] at k1 k2
        exact ⟨_, _, k, by simp only [Sem.run_bind, hrun, Result.andThen_ok]; rfl, k1, k2, k3⟩
      · cases h
    · cases h
  | makeSlice t ol oc =>
    simp only [allocA, ho] at h
    obtain ⟨d, hd, h⟩ := R.bind_ok h
    split at h
    · rename_i e
      obtain ⟨i, hi, h⟩ := R.bind_ok h
      obtain ⟨z, hz, h⟩ := R.bind_ok h
      obtain ⟨l, hl, h⟩ := R.bind_ok h
      obtain ⟨c, hc, h⟩ := R.bind_ok h
      obtain ⟨n, hn, h⟩ := R.bind_ok h
      obtain ⟨m, hm, h⟩ := R.bind_ok h
      split at h
      · rename_i hcond
        have h := R.ok.inj h
        obtain ⟨k1, e1⟩ := intA_eq hn (ev_cr hf hg hl)
        obtain ⟨k2, e2⟩ := intA_eq hm (ev_cr hf hg hc)
        obtain ⟨i', zv, hi', hzv, hzo⟩ := zero_info hz
        rw [info_ok hi] at hi'
        cases hi'
        have hzc := (ofV_cr (F := Forb A ρ g) (ρ := ρ) (w := w) hzo).cells
        have hzz := zeros_cr (n := m.toNat) hzc hcond.2.2.2.2
        have hnm : n.toNat ≤ m.toNat := by omega
        have hn0 : (n.toNat : Int) = n := by omega
        have hrun : (Instr.makeSlice t (a.eval ol) (a.eval oc)).run E.P w = .ok (.slice (some ⟨w.heap.size, 0, none⟩) n.toNat m.toNat) { w with heap := w.heap.push (.cells ((Array.range (m.toNat * i.size)).map (fun q => zv.cells[q % zv.cells.size]!)) e) } := by
          have hzr : (zeroValue e).run E.P w = .ok zv w := by simp [zeroValue, typeInfo, info_ok hi, hzv]
          have w1 : IntKind.i64.wrap n = n := IntWalk.i64_in _ (by omega)
          have w2 : IntKind.i64.wrap m = m := IntWalk.i64_in _ (by omega)
          have hb1 : ¬ ((i.bytes : Int) * m > 2 ^ 48) := by
            have h1 := hcond.2.2.1
            rw [Int.mul_comm]
            have : (m * (i.bytes : Int)) ≤ 140737488355328 := h1
            omega
          have hbad : ((decide (m < 0) || decide ((i.bytes : Int) * m > 2 ^ 48)) || decide (n < 0) || decide (n > m)) = false := by
            simp only [Bool.or_eq_false_iff, decide_eq_false_iff_not]
            exact ⟨⟨⟨by omega, hb1⟩, by omega⟩, by omega⟩
          simp only [Instr.makeSlice, Sem.run_bind, run_under hd, run_info hi, e1, e2, asInt, asIntOf, Sem.run_pure, Result.andThen_ok, w1, w2, hbad, Sem.run_ite, Bool.false_eq_true, if_false, run_askRoom, run_size_of hi]
          by_cases h0 : m.toNat * i.size = 0
          · simp only [h0, if_true, Result.andThen_ok, Sem.run_pure, range0]
            simp [newRow]
          · simp only [if_neg h0, Sem.run_bind, hzr, Result.andThen_ok, Sem.run_pure]
            simp [newRow]
        have hel : Elems (Forb A ρ g) ρ w ((Array.range (m.toNat * i.size)).map (fun q => zv.cells[q % zv.cells.size]!)) 0 i.size (List.replicate n.toNat z) := by
          have h1 := (elems_of_crs (replicate_sz hcond.2.2.2.2) hzz).cut 0 n.toNat
          rw [List.drop_zero, List.take_replicate, Nat.min_eq_left hnm] at h1
          simpa using h1
        obtain ⟨k, q1, q2, q3⟩ := newSl_ok E f o.dst (w' := { w with heap := w.heap.push (.cells ((Array.range (m.toNat * i.size)).map (fun q => zv.cells[q % zv.cells.size]!)) e) }) hr hid rfl ⟨rfl, rfl, rfl⟩ (thawed0 _) hel (c := m.toNat) (by simpa using hnm) (by simp)
        rw [List.length_replicate, h] at q3
        rw [h] at q1 q2
        exact ⟨_, _, k, by simp only [Sem.run_bind, hrun, Result.andThen_ok]; rfl, q1, q2, q3⟩
      · cases h
    · cases h
  | convert src dst b =>
    simp only [allocA, ho] at h
    obtain ⟨u, hu, h1⟩ := R.bind_ok h
    clear h
    obtain ⟨us, hus, h2⟩ := R.bind_ok h1
    clear h1
    obtain ⟨ud, hud, h⟩ := R.bind_ok h2
    clear h2
    have e1 := run_under hus w
    have e2 := run_under hud w
    have hcu := ev_cr hf hg hu
    obtain ⟨v, hv⟩ : ∃ v, a.eval b = v := ⟨_, rfl⟩
    rw [hv] at hcu
    clear hus hud hu
    split at h
    · rename_i e s
      obtain ⟨ue, hue, h⟩ := R.bind_ok h
      have e3 := run_under hue w
      split at h
      · obtain ⟨sz, hsz, h⟩ := R.bind_ok h
        by_cases hsz1 : sz = 1
        · rw [if_pos hsz1] at h
          have h := R.ok.inj h
          cases hcu
          have hlen : (ofBytes s).length = s.size := by simp [ofBytes]
          have hcs : ∀ (n : Nat), CRs (Forb A ρ g) ρ w (byteRow s n).toList (ofBytes s ++ List.replicate n (AV.int .u8 0)) := by
            intro n
            rw [byteRow, Array.toList_append]
            refine CRs.append ⟨by simp [ofBytes], fun j v y hv hy => ?_⟩ ⟨by simp, fun j v y hv hy => ?_⟩
            · simp only [ofBytes, Array.toList_map, List.getElem?_map] at hv hy
              cases hq : s.data.toList[j]? with
              | none => simp [hq] at hv
              | some b => simp [hq] at hv hy; subst hv; subst hy; exact .int _ _
            · rw [Array.getElem?_toList] at hv
              have h1 := List.mem_of_getElem? hy
              rw [(List.mem_replicate.1 h1).2]
              have h2 := Array.mem_of_getElem? hv
              rw [(Array.mem_replicate.1 h2).2]
              exact .int _ _
          generalize hcap : (Question.appendCap s.size 0 e).cut (w.tape w.drawn (.appendCap s.size 0 e)) = cap
          have hcle : s.size ≤ cap := by rw [← hcap]; simp only [Question.cut]; omega
          have hlf : ∀ y, y ∈ ofBytes s → y.cells.length = 1 := fun y hy => by
            obtain ⟨b, _, rfl⟩ := List.mem_map.1 hy; rfl
          have hlf2 : ∀ y, y ∈ ofBytes s ++ List.replicate (cap - s.size) (AV.int .u8 0) → y.leaf = true := fun y hy => by
            rcases List.mem_append.1 hy with hy | hy
            · obtain ⟨b, _, rfl⟩ := List.mem_map.1 hy; rfl
            · rw [(List.mem_replicate.1 hy).2]; rfl
          have hszc : (byteRow s (cap - s.size)).size = cap := by
            have : s.data.size = s.size := rfl
            simp [byteRow]; omega
          have hel : Elems (Forb A ρ g) ρ w (byteRow s (cap - s.size)) 0 1 (ofBytes s) := by
            have h1 := (elems_of_crs (sz := 1) (fun y hy => by rw [leaf_cells (hlf2 y hy)]; rfl) (by rw [flat_leaf hlf2]; exact hcs (cap - s.size))).cut 0 s.size
            rw [List.drop_zero, List.take_append, List.take_of_length_le (by omega)] at h1
            have : s.size - (ofBytes s).length = 0 := by omega
            rw [this, List.take_zero, List.append_nil] at h1
            simpa using h1
          obtain ⟨k, q1, q2, q3⟩ := newSl_ok E f o.dst (w' := { w with heap := w.heap.push (.cells (byteRow s (cap - s.size)) e (cap, cap + 1)), drawn := w.drawn + 1 }) hr hid rfl ⟨rfl, rfl, rfl⟩ (fun off _ h2 h3 => by rw [hszc] at h2; omega) hel (c := cap) (by omega) (by rw [hszc]; omega)
          rw [hlen, h] at q3
          rw [h] at q1 q2
          refine ⟨_, _, k, ?_, q1, q2, q3⟩
          simp only [Sem.run_bind, hv, convert, e1, e2, e3, Result.andThen_ok]
          have hfc : (Question.appendCap s.size 0 e).forced = false := rfl
          simp only [Conv.stringToBytes, Sem.run_bind, run_choose, hfc, Bool.false_eq_true, if_false, Result.andThen_ok, hcap, newRow, run_newObj, Sem.run_pure, markStringish, run_shape]
          have hrow : ((s.data.map fun (b : UInt8) => Value.int .u8 b.toNat) ++ Array.replicate (cap - s.size) (Value.int .u8 0)) = byteRow s (cap - s.size) := rfl
          have hshape : (World.shape? { w with heap := w.heap.push (.cells (byteRow s (cap - s.size)) e), drawn := w.drawn + 1 } w.heap.size) = some (e, cap) := by simp [World.shape?, hszc]
          rw [hrow]
          simp only [hshape, run_freeze, Result.andThen_ok]
          have hfr : World.freeze { w with heap := w.heap.push (.cells (byteRow s (cap - s.size)) e), drawn := w.drawn + 1 } { block := w.heap.size, off := cap } 1 = { w with heap := w.heap.push (.cells (byteRow s (cap - s.size)) e (cap, cap + 1)), drawn := w.drawn + 1 } := by
            simp [World.freeze, push_modify]
          rw [hfr]
        · rw [if_neg hsz1] at h; cases h
      · cases h
    · cases h
  | _ => simp only [allocA, ho] at h; cases h
end
end Go.Proofs.YthfkkflogbibfaaGreatDoor.AM
