/- The abstract machine: operations that look at no memory are run by the model as the machine runs them (4). -/
import Derived.Test.YthfkkflogbibfaaGreatDoorA5
namespace Go.Proofs.YthfkkflogbibfaaGreatDoor.AM
set_option linter.unusedSectionVars false
set_option linter.unusedVariables false
set_option linter.unusedSimpArgs false

section
variable {F : Area} {ρ : Rho} {w : World}

/-! ## parts put into their places -/
theorem fold_set : ∀ (us : List Value) (k off : Nat) (cs : Array Value) {acs l : List AV}, CRs F ρ w cs.toList acs → CRs F ρ w us l →
    CRs F ρ w ((us.zipIdx k).foldl (fun (cs : Array Value) (p : Value × Nat) => cs.setIfInBounds (off + p.2) p.1) cs).toList (setCells acs (off + k) l)
  | [], k, off, cs, acs, l, h, h' => by
    obtain rfl : l = [] := by have := h'.1; cases l <;> simp_all
    exact h
  | u :: us, k, off, cs, acs, l, h, h' => by
    cases l with
    | nil => have := h'.1; simp at this
    | cons y l =>
      simp only [List.zipIdx_cons, List.foldl_cons, setCells]
      refine fold_set us (k + 1) off _ ?_ h'.tail
      rw [Array.toList_setIfInBounds]
      exact h.set h'.head _
theorem setCells_length : ∀ (l cs : List AV) (off : Nat), (setCells cs off l).length = cs.length
  | [], cs, off => rfl
  | y :: l, cs, off => by simp [setCells, setCells_length l]
theorem fold_size : ∀ (us : List Value) (k off : Nat) (cs : Array Value), ((us.zipIdx k).foldl (fun (cs : Array Value) (p : Value × Nat) => cs.setIfInBounds (off + p.2) p.1) cs).size = cs.size
  | [], k, off, cs => rfl
  | u :: us, k, off, cs => by simp only [List.zipIdx_cons, List.foldl_cons]; rw [fold_size us]; simp

theorem fillA_run {place : Nat → Option (Nat × Nat)} : ∀ {parts : List (Nat × AV)} {vparts : List (Nat × Value)} {cells cells' : List AV} {cs : Array Value},
    fillA place cells parts = .ok cells' → vparts.map (·.1) = parts.map (·.1) → CRs F ρ w (vparts.map (·.2)) (parts.map (·.2)) → CRs F ρ w cs.toList cells →
    ∃ cs', Instr.fill place cs vparts = some cs' ∧ CRs F ρ w cs'.toList cells'
  | [], vparts, cells, cells', cs, h, h1, h2, h3 => by
    obtain rfl : vparts = [] := by simpa using h1
    cases h; exact ⟨cs, rfl, h3⟩
  | (i, y) :: parts, vparts, cells, cells', cs, h, h1, h2, h3 => by
    cases vparts with
    | nil => simp at h1
    | cons p vparts =>
      obtain ⟨j, v⟩ := p
      simp only [List.map_cons, List.cons.injEq] at h1
      obtain ⟨rfl, h1⟩ := h1
      simp only [List.map_cons] at h2
      simp only [fillA] at h
      cases hp : place j with
      | none => simp [hp] at h
      | some q =>
        obtain ⟨off, sz⟩ := q
        simp only [hp] at h
        split at h
        · rename_i hc
          have hv := h2.head.cells
          have hsz : v.cells.size = sz := by have := hv.1; simp at this; omega
          have hcs : cs.size = cells.length := by have := h3.1; simpa using this
          obtain ⟨cs', hr, hcr⟩ := fillA_run (cs := v.cells.zipIdx.foldl (fun (cs : Array Value) (p : Value × Nat) => cs.setIfInBounds (off + p.2) p.1) cs) h h1 h2.tail (by
            have := fold_set v.cells.toList 0 off cs h3 hv
            rw [← Array.foldl_toList]
            simpa using this)
          refine ⟨cs', ?_, hcr⟩
          simp only [Instr.fill, hp]
          rw [if_neg]
          · exact hr
          · simp; omega
        · cases h

theorem sizesR_places {P : Program} : ∀ {fs : List Field} {ps : List (Nat × Nat)}, sizesR P fs = .ok ps → fs.mapM (fun f => (P.info? f.type).map fun i => (f.offset, i.size)) = some ps
  | [], ps, h => by cases h; rfl
  | f :: fs, ps, h => by
    obtain ⟨s, hs, h⟩ := R.bind_ok h
    obtain ⟨r, hr, h⟩ := R.bind_ok h
    cases h
    obtain ⟨i, hi, rfl⟩ := size_info hs
    simp [List.mapM_cons, hi, sizesR_places hr]

theorem buildA_run {P : Program} {t : TypeId} {parts : List (Nat × AV)} {y : AV} (h : buildA P t parts = .ok y) {vparts : Array (Nat × Value)} (h1 : vparts.toList.map (·.1) = parts.map (·.1)) (h2 : CRs F ρ w (vparts.toList.map (·.2)) (parts.map (·.2))) :
    ∃ v, (Instr.build t vparts).run P w = .ok v w ∧ CR F ρ w v y := by
  obtain ⟨z, hz, h⟩ := R.bind_ok h
  obtain ⟨d, hd, h⟩ := R.bind_ok h
  obtain ⟨it, zv, hit, hzv, ho⟩ := zero_info hz
  have hzc := (ofV_cr (F := F) (ρ := ρ) (w := w) ho).cells
  have hu := under_ok hd
  cases d with
  | struct fs =>
    simp only at h
    obtain ⟨ps, hps, h⟩ := R.bind_ok h
    obtain ⟨cs, hcs, h⟩ := R.bind_ok h
    cases h
    obtain ⟨cs', hf, hcr⟩ := fillA_run hcs h1 h2 hzc
    refine ⟨.agg cs', run_build w t vparts cs' ?_, .agg_of hcr⟩
    simp only [Program.built, hit, hu, hzv, sizesR_places hps]
    have : (fun (i : Nat) => ps.toArray[i]?) = fun (i : Nat) => ps[i]? := by funext i; simp
    simpa [this] using hf
  | array n e =>
    simp only at h
    obtain ⟨s, hs, h⟩ := R.bind_ok h
    obtain ⟨cs, hcs, h⟩ := R.bind_ok h
    cases h
    obtain ⟨cs', hf, hcr⟩ := fillA_run hcs h1 h2 hzc
    obtain ⟨i, hi, rfl⟩ := size_info hs
    refine ⟨.agg cs', run_build w t vparts cs' ?_, .agg_of hcr⟩
    simp only [Program.built, hit, hu, hzv, hi]
    exact hf
  | _ => cases h

variable {E : Env} {a : Act} {τ : Fr}

theorem parts_cr (hf : FRel F ρ w a.tmps τ) (hg : Glob E F ρ w) {parts : Array (Nat × Operand)} {vs : List AV} (h : evs E τ (parts.toList.map (·.2)) = .ok vs) :
    (parts.map fun (i, x) => (i, a.eval x)).toList.map (·.1) = ((parts.toList.map (·.1)).zip vs).map (·.1) ∧ CRs F ρ w ((parts.map fun (i, x) => (i, a.eval x)).toList.map (·.2)) (((parts.toList.map (·.1)).zip vs).map (·.2)) := by
  have hc := evs_cr hf hg h
  have hl : vs.length = parts.toList.length := by have := hc.1; simpa using this.symm
  constructor
  · rw [List.map_fst_zip (by simp [← hl])]; simp [List.map_map, Function.comp_def]
  · rw [List.map_snd_zip (by simp [← hl])]
    have : (parts.map fun (i, x) => (i, a.eval x)).toList.map (·.2) = (parts.toList.map (·.2)).map a.eval := by simp [List.map_map, Function.comp_def]
    rw [this]; exact hc

theorem fieldPlace_run {P : Program} {f : Field} {z : Nat} (hz : size P f.type = .ok z) (h0 : z ≠ 0) (B o : Nat) (w : World) : (fieldPlace ⟨B, o, none⟩ f).run P w = .ok ⟨B, o + f.offset, none⟩ w := by
  simp [fieldPlace, run_size hz, h0, add0]

theorem elem_fp {v : Value} {sz : Nat} {l : List AV} {tl : Tl} (h : CR F ρ w v (.lst sz l tl)) {i : Nat} {x : AV} (hi : l[i]? = some x) :
    ∃ B o c, v = .slice (some ⟨B, o, none⟩) l.length c ∧ CR F ρ w (.pointer (some ⟨B, o + i * sz, none⟩)) (.fp x.cells 0) := by
  cases h with
  | lst0 => simp at hi
  | @lst B o n c _ cs e fz _ _ hb hn hsz hF vs h1 h2 hl hr hc ht =>
    subst hn
    refine ⟨B, o, c, rfl, .fp (base := o + i * sz) hb (fun j hj => ?_) (vs i) (fun j y hy => ?_) (fun j y hy => h2 i x j y hi hy) rfl⟩
    · rw [hsz x (List.mem_of_getElem? hi)] at hj
      have : (i + 1) * sz ≤ l.length * sz := Nat.mul_le_mul_right sz (lt_of_getl hi)
      rw [Nat.add_mul] at this
      have := hF (i * sz + j) (by omega)
      rwa [← Nat.add_assoc] at this
    · have := h1 i x j y hi hy
      rwa [← Nat.add_assoc] at this

theorem indexAddr_run {t : TypeId} {x y : AV} {i : Int} {v : Value} {k : IntKind} (hx : CR F ρ w v x)
    (h : indexA E.P t x i = .ok y) :
    ∃ r, (Instr.indexAt t v (.int k i)).run E.P w = .ok r w ∧ CR F ρ w r y := by
  obtain ⟨d, hd, h⟩ := R.bind_ok h
  have hu := run_under hd w
  cases d with
  | slice e =>
    simp only at h
    obtain ⟨s, hs, h⟩ := R.bind_ok h
    obtain ⟨n, hn, h⟩ := R.bind_ok h
    by_cases hc : 0 ≤ i ∧ i < n ∧ szA x s = true
    case neg => rw [if_neg hc] at h; cases h
    rw [if_pos hc] at h
    cases hx with
    | @lst B o n' c sz cs e' fz l tl hb hn' hsz hF vs g1 g2 hl hr hc' ht =>
      have hcr : CR F ρ w (.slice (some ⟨B, o, none⟩) n' c) (.lst sz l tl) := .lst hb hn' hsz hF vs g1 g2 hl hr hc' ht
      cases hn
      simp only at h
      cases hg : l[i.toNat]? with
      | none => simp [hg] at h
      | some u =>
        simp only [hg, R.ok.injEq] at h
        subst h
        obtain ⟨B', o', c', he, hfp⟩ := elem_fp hcr hg
        cases he
        have hss : sz = s := by simpa [szA] using hc.2.2
        subst hss
        refine ⟨_, ?_, hfp⟩
        simp [Instr.indexAt, asIntOf, hu, hc.1, hc.2.1, run_size hs, add0]
    | @sl b B o off len sz c clip cs e' fz hb0 hb hr hl hc' ho =>
      cases hn; cases h
      have hss : sz = s := by simpa [szA] using hc.2.2
      subst hss
      refine ⟨.pointer (some ⟨B, o + i.toNat * sz, none⟩), ?_, .eptr hb0 ?_⟩
      · simp [Instr.indexAt, asIntOf, hu, hc.1, hc.2.1, run_size hs, add0]
      · rcases ho with h' | h'
        · omega
        · rw [h', Nat.add_mul]; omega
    | @vsl b B o off len c clip hb0 hl hc' ho =>
      cases hn; cases h
      have hss : s = 1 := by simpa [szA] using hc.2.2
      subst hss
      refine ⟨.pointer (some ⟨B, o + i.toNat * 1, none⟩), ?_, ?_⟩
      · simp [Instr.indexAt, asIntOf, hu, hc.1, hc.2.1, run_size hs, add0]
      · have : o + i.toNat * 1 = off + i.toNat := by rcases ho with h' | h' <;> omega
        rw [this]; exact .ptr hb0
    | _ => cases h
  | array n e =>
    simp only at h
    obtain ⟨s, hs, h⟩ := R.bind_ok h
    by_cases hc : 0 ≤ i ∧ i < n
    case neg => rw [if_neg hc] at h; cases h
    rw [if_pos hc] at h
    cases hx with
    | @ptr b B off hb0 =>
      cases h
      refine ⟨.pointer (some ⟨B, off + i.toNat * s, none⟩), ?_, .ptr hb0⟩
      simp [Instr.indexAt, asIntOf, Instr.sureAddr, hu, hc.1, hc.2, run_size hs, add0]
    | @eptr b B j sz off o hb0 ho =>
      cases h
      refine ⟨.pointer (some ⟨B, o + i.toNat * s, none⟩), ?_, .eptr hb0 (by omega)⟩
      simp [Instr.indexAt, asIntOf, Instr.sureAddr, hu, hc.1, hc.2, run_size hs, add0]
    | @fp B base off o cs e' fz l hb hF vs h1 h2 ho =>
      cases h
      refine ⟨.pointer (some ⟨B, o + i.toNat * s, none⟩), ?_, .fp hb hF vs h1 h2 (by omega)⟩
      simp [Instr.indexAt, asIntOf, Instr.sureAddr, hu, hc.1, hc.2, run_size hs, add0]
    | _ => cases h
  | _ => cases h

theorem map_toArray1 {α β : Type} {xs : Array α} {f : α → β} {l : List β} (h : xs.toList.map f = l) : xs.map f = l.toArray := by
  subst h; apply Array.ext'; simp

theorem pureA_run (hS : Smet E.P E.S) (hf : FRel F ρ w a.tmps τ) (hg : Glob E F ρ w) {o : Oper} {y : AV} (h : pureA E τ o = .ok y) (hk : kindOf E o.op = .pure) :
    ∃ v, (execOp a.eval o).run E.P w = .ok (.value v) w ∧ CR F ρ w v y := by
  unfold execOp
  cases ho : o.op with
  | move x => simp only [pureA, ho] at h; exact ⟨_, rfl, ev_cr hf hg h⟩
  | assign x => simp only [pureA, ho] at h; exact ⟨_, rfl, ev_cr hf hg h⟩
  | pick c x z =>
    simp only [pureA, ho] at h
    obtain ⟨b, hb, h⟩ := R.bind_ok h
    have hc := ev_cr hf hg hb
    split at h
    · have := toV_eq (x := .bool true) (by rfl) hc
      exact ⟨a.eval x, by simp [this, asBool], ev_cr hf hg h⟩
    · have := toV_eq (x := .bool false) (by rfl) hc
      exact ⟨a.eval z, by simp [this, asBool], ev_cr hf hg h⟩
    · cases h
  | build t parts =>
    simp only [pureA, ho] at h
    obtain ⟨vs, hvs, h⟩ := R.bind_ok h
    obtain ⟨h1, h2⟩ := parts_cr hf hg hvs
    obtain ⟨v, hv, hc⟩ := buildA_run h h1 h2
    exact ⟨v, by simp only [Sem.run_bind, hv, Result.andThen_ok]; rfl, hc⟩
  | nilCheck x =>
    simp only [pureA, ho] at h
    obtain ⟨b, hb, h⟩ := R.bind_ok h
    have hc := ev_cr hf hg hb
    obtain ⟨v, hv⟩ : ∃ v, a.eval x = v := ⟨_, rfl⟩
    simp only [hv]
    rw [hv] at hc
    cases hc <;> simp only at h <;> cases h <;> exact ⟨_, rfl, by constructor <;> assumption⟩
  | binOp op t x z yt =>
    simp only [pureA, ho] at h
    obtain ⟨u, hu, h⟩ := R.bind_ok h
    obtain ⟨v, hv, h⟩ := R.bind_ok h
    obtain ⟨r, hr, hc⟩ := binA_run hS h (ev_cr hf hg hu) (ev_cr hf hg hv) x z
    exact ⟨r, by simp only [Sem.run_bind] at hr ⊢; rw [hr]; rfl, hc⟩
  | unOp op t x =>
    simp only [pureA, ho] at h
    obtain ⟨u, hu, h⟩ := R.bind_ok h
    have := lift_ok h
    cases hv : u.toV with
    | none => simp [hv] at this
    | some v =>
      have he := toV_eq hv (ev_cr hf hg hu)
      cases hr : pureRun E.P (Op.unary op v) with
      | none => simp [hv, hr] at this
      | some r =>
        simp [hv, hr] at this
        exact ⟨r, by simp only [Sem.run_bind, he, pureRun_run hr w, Result.andThen_ok]; rfl, ofV_cr this⟩
  | convert src dst x =>
    simp only [pureA, ho] at h
    obtain ⟨u, hu, h⟩ := R.bind_ok h
    obtain ⟨us, hus, h⟩ := R.bind_ok h
    obtain ⟨ud, hud, h⟩ := R.bind_ok h
    have hc := ev_cr hf hg hu
    obtain ⟨v, hv⟩ : ∃ v, a.eval x = v := ⟨_, rfl⟩
    rw [hv] at hc
    have e1 := run_under hus w
    have e2 := run_under hud w
    clear hus hud
    split at h
    · cases hc
      cases h
      exact ⟨_, by simp only [Sem.run_bind, convert, e1, e2, Result.andThen_ok, hv]; rfl, .int _ _⟩
    · cases hc
      cases h
      exact ⟨_, by simp only [Sem.run_bind, convert, e1, e2, Result.andThen_ok, hv]; rfl, .str _⟩
    · cases h
  | makeFunc fn first caps =>
    simp only [pureA, ho] at h
    split at h
    · obtain ⟨vs, hvs, h⟩ := R.bind_ok h
      obtain ⟨us, hus, h⟩ := R.bind_ok h
      cases h
      have c1 := evs_cr hf hg hvs
      have c2 := evs_cr hf hg hus
      refine ⟨_, rfl, ?_⟩
      have get : ∀ {xs : Array Operand} {ys : List AV}, CRs F ρ w (xs.toList.map a.eval) ys → ∀ (j : Nat) (y : AV), ys[j]? = some y → (xs.map a.eval)[j]? = some ((xs.map a.eval).getD j Go.undef) ∧ CR F ρ w ((xs.map a.eval).getD j Go.undef) y := by
        intro xs ys hc j y hy
        obtain ⟨v, hv, hcr⟩ := hc.get hy
        rw [← Array.toList_map, Array.getElem?_toList] at hv
        simp only [Array.getD_eq_getD_getElem?, hv]
        exact ⟨rfl, hcr⟩
      exact .clo (by have := c1.1; simpa using this) (by have := c2.1; simpa using this) (fun j => (first.map a.eval).getD j Go.undef) (fun j => (caps.map a.eval).getD j Go.undef) (fun j y hy => (get c1 j y hy).1) (fun j y hy => (get c1 j y hy).2) (fun j y hy => (get c2 j y hy).1) (fun j y hy => (get c2 j y hy).2)
    · cases h
  | slice t x lo hi mx =>
    simp only [pureA, ho] at h
    obtain ⟨u, hu, h⟩ := R.bind_ok h
    obtain ⟨l, hl, h⟩ := R.bind_ok h
    obtain ⟨hh, hhh, h⟩ := R.bind_ok h
    obtain ⟨m, hm, h⟩ := R.bind_ok h
    obtain ⟨r, hr, hc⟩ := sliceA_run h (ev_cr hf hg hu) (evo_cr hf hg hl) (evo_cr hf hg hhh) (evo_cr hf hg hm)
    exact ⟨r, by simp only [Sem.run_bind, hr, Result.andThen_ok]; rfl, hc⟩
  | fieldAddr s x f =>
    simp only [pureA, ho] at h
    obtain ⟨u, hu, h⟩ := R.bind_ok h
    obtain ⟨d, hd, h⟩ := R.bind_ok h
    have hc := ev_cr hf hg hu
    split at h
    · rename_i fs
      obtain ⟨fd, hfd, h⟩ := R.bind_ok h
      obtain ⟨z, hz, h⟩ := R.bind_ok h
      split at h
      · cases h
      · rename_i h0
        have hfd := lift_ok hfd
        obtain ⟨v, hv⟩ : ∃ v, a.eval x = v := ⟨_, rfl⟩
        rw [hv] at hc
        cases hc with
        | @ptr b B off hb0 =>
          cases h
          exact ⟨.pointer (some ⟨B, off + fd.offset, none⟩), by simp [hv, Instr.fieldAt, Instr.sureAddr, run_under hd, hfd, fieldPlace_run hz h0], .ptr hb0⟩
        | @eptr b B j sz off o hb0 ho =>
          cases h
          exact ⟨.pointer (some ⟨B, o + fd.offset, none⟩), by simp [hv, Instr.fieldAt, Instr.sureAddr, run_under hd, hfd, fieldPlace_run hz h0], .eptr hb0 (by omega)⟩
        | @fp B base off o cs e' fz l hb hF vs h1 h2 ho =>
          cases h
          exact ⟨.pointer (some ⟨B, o + fd.offset, none⟩), by simp [hv, Instr.fieldAt, Instr.sureAddr, run_under hd, hfd, fieldPlace_run hz h0], .fp hb hF vs h1 h2 (by omega)⟩
        | _ => cases h
    · cases h
  | field t x f =>
    simp only [pureA, ho] at h
    obtain ⟨u, hu, h⟩ := R.bind_ok h
    obtain ⟨d, hd, h⟩ := R.bind_ok h
    have hc := ev_cr hf hg hu
    split at h
    · obtain ⟨fd, hfd, h⟩ := R.bind_ok h
      have hfd := lift_ok hfd
      split at h
      · obtain ⟨vs, hvs, hcs⟩ := hc.agg_inv
        obtain ⟨v, hv, hcv⟩ := partA_cr h hcs
        exact ⟨v, by simp [Instr.field, run_under hd, hfd, hvs, asAgg, hv], hcv⟩
      · cases h
    · cases h
  | indexAddr t x ix =>
    simp only [pureA, ho] at h
    obtain ⟨u, hu, h⟩ := R.bind_ok h
    obtain ⟨i, hi, h⟩ := R.bind_ok h
    obtain ⟨n, hn, h⟩ := R.bind_ok h
    obtain ⟨k, hk'⟩ := intA_eq hn (ev_cr hf hg hi)
    obtain ⟨r, hr, hc⟩ := indexAddr_run (k := k) (ev_cr hf hg hu) h
    exact ⟨r, by simp only [Sem.run_bind, hk', hr, Result.andThen_ok]; rfl, hc⟩
  | index t x ix =>
    simp only [pureA, ho] at h
    obtain ⟨u, hu, h⟩ := R.bind_ok h
    obtain ⟨i, hi, h⟩ := R.bind_ok h
    have hcu := ev_cr hf hg hu
    have hci := ev_cr hf hg hi
    split at h
    · obtain ⟨v, hv⟩ : ∃ v, a.eval x = v := ⟨_, rfl⟩
      obtain ⟨v2, hv2⟩ : ∃ v, a.eval ix = v := ⟨_, rfl⟩
      rw [hv] at hcu
      rw [hv2] at hci
      cases hcu
      cases hci
      obtain ⟨r, hr, h⟩ := Option.bind_eq_some_iff.1 (lift_ok h)
      exact ⟨r, by simp only [Sem.run_bind, hv, hv2, pureRun_run hr w, Result.andThen_ok]; rfl, ofV_cr h⟩
    · rename_i cs k n
      obtain ⟨d, hd, h⟩ := R.bind_ok h
      split at h
      · obtain ⟨s, hs, h⟩ := R.bind_ok h
        split at h
        · rename_i hc
          have e2 := toV_eq (by rfl) hci
          obtain ⟨vs, hvs, hcs⟩ := hcu.agg_inv
          obtain ⟨v, hv, hcv⟩ := partA_cr h hcs
          exact ⟨v, by simp [Instr.index, e2, hvs, asIntOf, run_under hd, hc.1, hc.2, run_size hs, hv], hcv⟩
        · cases h
      · cases h
    · cases h
  | extract x i =>
    simp only [pureA, ho] at h
    obtain ⟨u, hu, h⟩ := R.bind_ok h
    have hc := ev_cr hf hg hu
    split at h
    · obtain ⟨cs, hcs, hcr⟩ := hc.tup_inv
      obtain ⟨v, hv, hcv⟩ := hcr.get (lift_ok h)
      rw [Array.getElem?_toList] at hv
      exact ⟨v, by simp [hcs, Instr.extract, hv], hcv⟩
    · cases h
  | call c =>
    obtain ⟨callee, args, ats⟩ := c
    cases callee with
    | builtin b =>
      simp only [pureA, ho] at h
      obtain ⟨vs, hvs, h⟩ := R.bind_ok h
      have hc := evs_cr hf hg hvs
      have one : ∀ {y : AV}, vs = [y] → ∃ v, args.map a.eval = #[v] ∧ CR F ρ w v y := by
        intro y hy
        subst hy
        cases hv : args.toList.map a.eval with
        | nil => rw [hv] at hc; have := hc.1; simp at this
        | cons v rest =>
          rw [hv] at hc
          obtain rfl : rest = [] := by have := hc.1; simpa using this
          exact ⟨v, map_toArray1 hv, hc.head⟩
      split at h
      · obtain ⟨v, hv, hcv⟩ := one rfl
        obtain ⟨t, ht, h⟩ := R.bind_ok h
        obtain ⟨d, hd, h⟩ := R.bind_ok h
        have ht := lift_ok ht
        have e1 := run_under hd w
        split at h
        · cases hcv
          cases h
          exact ⟨_, by simp [resolve, invoke, builtin, hv, Builtin.len_, ht, e1, goInt], .int _ _⟩
        · cases h
      · rename_i x _ _
        obtain ⟨v, hv, hcv⟩ := one rfl
        obtain ⟨t, ht, h⟩ := R.bind_ok h
        obtain ⟨d, hd, h⟩ := R.bind_ok h
        have ht := lift_ok ht
        have e1 := run_under hd w
        split at h
        · obtain ⟨n, hn, h⟩ := R.bind_ok h
          cases h
          obtain ⟨b, c, hb⟩ : ∃ b c, v = .slice b n c := by
            cases hcv <;> cases hn <;> first | exact ⟨_, _, rfl⟩ | (subst_vars; exact ⟨_, _, rfl⟩)
          exact ⟨_, by simp [resolve, invoke, builtin, hv, hb, Builtin.len_, ht, e1, goInt], .int _ _⟩
        · cases h
      · obtain ⟨us, hus, h⟩ := R.bind_ok h
        have he := toVs_eq (lift_ok hus) hc
        have := lift_ok h
        cases hr : pureRun E.P (Builtin.min_ ats o.type us.toArray) with
        | none => simp [hr] at this
        | some r =>
          simp [hr] at this
          exact ⟨r, by simp [resolve, invoke, builtin, map_toArray1 he, pureRun_run hr w], ofV_cr this⟩
      · obtain ⟨us, hus, h⟩ := R.bind_ok h
        have he := toVs_eq (lift_ok hus) hc
        have := lift_ok h
        cases hr : pureRun E.P (Builtin.max_ ats o.type us.toArray) with
        | none => simp [hr] at this
        | some r =>
          simp [hr] at this
          exact ⟨r, by simp [resolve, invoke, builtin, map_toArray1 he, pureRun_run hr w], ofV_cr this⟩
      · cases h
    | value f => simp only [pureA, ho] at h; cases h
    | invoke r m => simp only [pureA, ho] at h; cases h
  | _ => simp only [pureA, ho] at h; cases h
end
end Go.Proofs.YthfkkflogbibfaaGreatDoor.AM
