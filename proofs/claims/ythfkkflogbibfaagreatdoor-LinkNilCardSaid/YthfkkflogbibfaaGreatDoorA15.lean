/- The abstract machine: one operation after another. -/
import Derived.Test.YthfkkflogbibfaaGreatDoorA14
import Derived.Orders
import Derived.OrdersIn
import Derived.TacticsIn
import Derived.LoopNIn
namespace Go.Proofs.YthfkkflogbibfaaGreatDoor.AM
set_option linter.unusedSectionVars false
set_option linter.unusedVariables false
set_option linter.unusedSimpArgs false

section
variable {E : Env} {s0 nn : Nat} {rd : Option Nat}

/-- what a range over a function has laid to be done behind, in blocks from s0 on that are no one's. -/
def DeOK (s0 : Nat) (ds : List Deferred) (w : World) (O : Area) : Prop :=
  s0 ≤ w.heap.size ∧ ds.Nodup ∧ ∀ d, d ∈ ds → ∃ D, d = { target := .collected D, args := #[] } ∧ s0 ≤ D ∧ w.heap[D]? = some (.deferred (some [])) ∧ ∀ off, ¬ O D off
theorem DeOK.nil {w : World} {O : Area} (h : s0 ≤ w.heap.size) : DeOK s0 [] w O := ⟨h, List.nodup_nil, fun d h => by cases h⟩
theorem DeOK.ext {ds : List Deferred} {w w' : World} {O O' : Area} {ρ ρ' : Rho} (h : DeOK s0 ds w O) (hx : Ext O ρ w O' ρ' w') : DeOK s0 ds w' O' :=
  ⟨Nat.le_trans h.1 hx.size, h.2.1, fun d hd => by
    obtain ⟨D, h1, h2, h3, h4⟩ := h.2.2 d hd
    have hlt := lt_of_get h3
    refine ⟨D, h1, h2, by rw [hx.keepo D hlt h4]; exact h3, fun off ho => ?_⟩
    rcases hx.new D off ho with h5 | h5
    · exact h4 off h5
    · omega⟩

/-- the state here stands for the state there. -/
structure St (E : Env) (A : Area) (ρ : Rho) (w : World) (a : Act) (τ : Fr) (g : View) (N s0 : Nat) : Prop where
  hr : HR E.G A ρ w g
  fr : FRel (Forb A ρ g) ρ w a.tmps τ
  sz : a.tmps.size = N
  de : DeOK s0 a.defers w (Own ρ g)

/-- a frame that is a function's, or a round's. -/
def fw (rd : Option Nat) : Fence := { Fence.wide with round := rd }
theorem semAt_nd {ρ : Operand → Value} {o : Oper} (h : ∀ c, o.op ≠ .defer c) : o.semAt rd ρ = execOp ρ o := by
  cases rd with
  | none => simp [Oper.semAt]
  | some l => exact Oper.semAt_some l _ _ h

/-- what the machine says of a call holds of the call. -/
def CallOK (E : Env) (call : CallF) : Prop :=
  ∀ f args h r h', call f args h = .ok (r, h') → ∀ (A : Area) (ρ : Rho) (w : World) (vs : Array Value), HR E.G A ρ w (view h) → CRs (Forb A ρ (view h)) ρ w vs.toList args →
    (∀ W, (callFunc f vs).run E.P W = .ok (.enter f vs) W) ∧ Calls E.P f vs w fun e w' => ∃ v ρ', e = .returned v ∧ Ext (Own ρ (view h)) ρ w (Own ρ' (view h')) ρ' w' ∧ HR E.G A ρ' w' (view h') ∧ CR (Forb A ρ' (view h')) ρ' w' v r

/-- the contracts hold. -/
def COK (E : Env) : Prop := CallOK E fun f args h => match E.C f args with
  | some r => .ok (thaw h r)
  | none => .no ""

theorem noF_thaw : (∀ v : AV, noF v = true → ∀ h, thaw h v = (v, h)) := by
  intro v
  exact AV.rec (motive_1 := fun v => noF v = true → ∀ h, thaw h v = (v, h)) (motive_2 := fun l => noFs l = true → ∀ h, thaws h l = (l, h))
    (fun _ _ _ => rfl) (fun _ _ _ _ => rfl) (fun _ _ _ => rfl) (fun _ _ => rfl) (fun _ _ _ _ => rfl) (fun _ _ _ _ _ _ => rfl) (fun _ _ _ _ _ => rfl) (fun _ _ => rfl) (fun _ _ _ _ _ _ _ => rfl)
    (fun _ _ _ _ _ _ => rfl) (fun _ _ _ _ _ _ => rfl) (fun _ _ _ h => by simp [noF] at h) (fun _ _ => rfl) (fun _ _ _ => rfl) (fun _ _ => rfl) (fun _ _ _ _ _ _ _ => rfl) (fun _ _ => rfl)
    (fun cs ih h hh => by simp only [noF] at h; simp [thaw, ih h hh]) (fun cs ih h hh => by simp only [noF] at h; simp [thaw, ih h hh])
    (fun _ _ => rfl) (fun x xs h1 h2 h hh => by simp only [noFs, Bool.and_eq_true] at h; simp [thaws, h1 h.1, h2 h.2]) v

theorem FRel.ext {A : Area} {ρ ρ' : Rho} {g g' : View} {w w' : World} (h : Ext (Own ρ g) ρ w (Own ρ' g') ρ' w') {tmps : Array Value} {τ : Fr} (hf : FRel (Forb A ρ g) ρ w tmps τ) : FRel (Forb A ρ' g') ρ' w' tmps τ := fun i => (hf i).ext h

theorem FRel.put {F : Area} {ρ : Rho} {w : World} {a : Act} {τ τ' : Fr} {N : Nat} (hf : FRel F ρ w a.tmps τ) (hN : a.tmps.size = N) {dst : Option Nat} {v : Value} {y : AV} (hv : CR F ρ w v y) (hp : putA N τ dst y = .ok τ') : FRel F ρ w (a.put dst v).tmps τ' := by
  cases dst with
  | none => cases hp; exact hf
  | some d =>
    simp only [putA] at hp
    split at hp
    · rename_i hd
      cases hp
      intro i
      simp only [Act.put, upd]
      by_cases hi : i = d
      · subst hi
        rw [if_pos rfl]
        simp [Array.getD_eq_getD_getElem?, Array.getElem?_setIfInBounds_self_of_lt (by omega : i < a.tmps.size)]
        exact .inr hv
      · rw [if_neg hi]
        have : (a.tmps.setIfInBounds d v).getD i Go.undef = a.tmps.getD i Go.undef := by
          simp [Array.getD_eq_getD_getElem?, Array.getElem?_setIfInBounds_ne (fun e => hi e.symm)]
        rw [this]; exact hf i
    · cases hp
theorem put_size (a : Act) (dst : Option Nat) (v : Value) : (a.put dst v).tmps.size = a.tmps.size := by cases dst <;> simp [Act.put]
theorem put_defers (a : Act) (dst : Option Nat) (v : Value) : (a.put dst v).defers = a.defers := by cases dst <;> simp [Act.put]

theorem St.put {A : Area} {ρ ρ' : Rho} {w w' : World} {a : Act} {τ τ' : Fr} {g g' : View} {N : Nat} (hs : St E A ρ w a τ g N s0) (hx : Ext (Own ρ g) ρ w (Own ρ' g') ρ' w') (hr : HR E.G A ρ' w' g') {dst : Option Nat} {v : Value} {y : AV} (hv : CR (Forb A ρ' g') ρ' w' v y) (hp : putA N τ dst y = .ok τ') :
    St E A ρ' w' (a.put dst v) τ' g' N s0 :=
  ⟨hr, (hs.fr.ext hx).put hs.sz hv hp, by rw [put_size]; exact hs.sz, by rw [put_defers]; exact hs.de.ext hx⟩

theorem cr_bool {F : Area} {ρ : Rho} {w : World} {v : Value} {y : AV} (h : CR F ρ w v y) : (∀ b, v = .bool b ↔ y = .bool b) := by
  intro b
  cases h <;> simp

theorem want_eq {F : Area} {ρ : Rho} {w : World} {tmps : Array Value} {τ : Fr} (hf : FRel F ρ w tmps τ) (ops : Array Oper) (o : Oper) (hg0 : gtop ops τ o = false) : Region.wanted o (yielded ops tmps) = wantA ops τ o := by
  unfold gtop at hg0
  unfold Region.wanted wantA
  cases hg : o.guard with
  | none => rfl
  | some p =>
    obtain ⟨j, want⟩ := p
    rw [hg] at hg0
    simp only at hg0
    simp only [yielded]
    cases hd : (ops[j]?).bind (·.dst) with
    | none => rfl
    | some d =>
      rw [hd] at hg0
      simp only [Option.bind_some]
      have h := (hf d).resolve_left fun ⟨sz, l, e⟩ => by simp only [e] at hg0; cases hg0
      rw [Array.getD_eq_getD_getElem?] at h
      cases hv : tmps[d]? with
      | none =>
        rw [hv] at h
        simp only [Option.getD_none] at h
        generalize τ d = y at h
        cases h with
        | tup => rfl
      | some v =>
        rw [hv] at h
        simp only [Option.getD_some] at h
        generalize τ d = y at h
        cases h <;> rfl

theorem gives_wp {o : Oper} {a : Act} {w w' : World} {v : Value} {K : Act → World → Prop} {Q : Exit → Act → World → Prop} (hnd : ∀ c, o.op ≠ .defer c) (hg : Gives E.P (execOp a.eval o) w v w') (h : K (a.put o.dst v) w') : o.wpIn (fw rd) nn E.P a w K Q := by
  unfold Oper.wpIn
  refine ⟨fun _ _ => trivial, ?_⟩
  rw [semAt_nd hnd]
  rcases hg with hg | ⟨hg, rfl⟩
  · rw [hg]; exact h
  · rw [hg]; exact h
theorem enters_wp {o : Oper} {a : Act} {w w1 : World} {f : FuncId} {args : Array Value} {R : Ending → World → Prop} {K : Act → World → Prop} {Q : Exit → Act → World → Prop} (hnd : ∀ c, o.op ≠ .defer c) (hrun : (execOp a.eval o).run E.P w = .ok (.enter f args) w1) (hc : Calls E.P f args w1 R)
    (h : ∀ e w', R e w' → ∃ v, e = .returned v ∧ K (a.put o.dst v) w') : o.wpIn (fw rd) nn E.P a w K Q := by
  unfold Oper.wpIn
  refine ⟨fun _ _ => trivial, ?_⟩
  rw [semAt_nd hnd, hrun, Oper.uponIn_enter]
  refine ⟨fun h => ?_, ?_⟩
  · simp [fw, Fence.wide] at h
  refine CallsIn.mono (F := fw rd) (show CallsIn Fence.wide _ _ _ _ _ _ from callsIn_wide.2 hc) (fun e w' he => ?_)
  obtain ⟨v, rfl, hk⟩ := h e w' he
  exact hk
theorem opA_nd {call : CallF} {f : FuncId} {τ : Fr} {h h' : H} {o : Oper} {y : AV} (ho : opA E f call τ h o = .ok (y, h')) : ∀ c, o.op ≠ .defer c := by
  intro c hc
  simp [opA, kindOf, hc, pureA, R.bind] at ho

/-- one operation. -/
theorem opA_wp (hS : Smet E.P E.S) (hC : COK E) {call : CallF} (hcall : CallOK E call) {f : FuncId} {τ : Fr} {h h' : H} {o : Oper} {y : AV} (ho : opA E f call τ h o = .ok (y, h')) {A : Area} {ρ : Rho} {w : World} {a : Act} {N : Nat} (hs : St E A ρ w a τ (view h) N s0)
    {K : Act → World → Prop} {Q : Exit → Act → World → Prop} (hK : ∀ v w' ρ', Ext (Own ρ (view h)) ρ w (Own ρ' (view h')) ρ' w' → HR E.G A ρ' w' (view h') → CR (Forb A ρ' (view h')) ρ' w' v y → K (a.put o.dst v) w') : o.wpIn (fw rd) nn E.P a w K Q := by
  have ho0 := ho
  unfold opA at ho
  cases hk : kindOf E o.op with
  | pure =>
    simp only [hk] at ho
    obtain ⟨v, hv, ho⟩ := R.bind_ok ho
    cases ho
    obtain ⟨u, hu, hc⟩ := pureA_run hS hs.fr hs.hr.glob' hv hk
    exact gives_wp (opA_nd ho0) (.inl hu) (hK u w ρ (Ext.refl _ _ _) hs.hr hc)
  | read =>
    simp only [hk] at ho
    obtain ⟨v, hv, ho⟩ := R.bind_ok ho
    cases ho
    obtain ⟨u, hu, hc⟩ := readA_run hS hs.hr hs.fr hv (fun _ _ => rfl)
    exact gives_wp (opA_nd ho0) (.inl hu) (hK u w ρ (Ext.refl _ _ _) hs.hr hc)
  | light =>
    simp only [hk] at ho
    obtain ⟨v, hv, ho⟩ := R.bind_ok ho
    cases ho
    cases hop : o.op with
    | call c =>
      obtain ⟨callee, args, ats⟩ := c
      cases callee with
      | value g =>
        cases g with
        | func g =>
          simp only [lightA, hop] at hv
          obtain ⟨as, has, hv⟩ := R.bind_ok hv
          have hca := evs_cr hs.fr hs.hr.glob' has
          split at hv
          · rename_i r hr
            split at hv
            · rename_i hnf
              cases hv
              have hargs : CRs (Forb A ρ (view h)) ρ w (args.map a.eval).toList as := by rw [Array.toList_map]; exact hca
              obtain ⟨hen, hcalls⟩ := hC g as h y h (by simp only [hr, noF_thaw y hnf h]) A ρ w _ hs.hr hargs
              have hrun : (execOp a.eval o).run E.P w = .ok (.enter g (args.map a.eval)) w := by
                unfold execOp
                have := hen w
                simp [hop, resolve, Act.eval, Deferred.ofValue, invoke, this]
              refine enters_wp (opA_nd ho0) hrun hcalls ?_
              rintro e w' ⟨v, ρ', rfl, h1, h2, h3⟩
              exact ⟨v, rfl, hK v w' ρ' h1 h2 h3⟩
            · cases hv
          · cases hv
        | _ => simp only [lightA, hop] at hv; cases hv
      | builtin b => simp only [lightA, hop] at hv; cases hv
      | invoke r m => simp only [lightA, hop] at hv; cases hv
    | _ => simp only [lightA, hop] at hv; cases hv
  | alloc =>
    simp only [hk] at ho
    obtain ⟨⟨v, b⟩, hv, ho⟩ := R.bind_ok ho
    cases ho
    obtain ⟨u, w', k, h1, h2, h3, h4⟩ := allocA_run hs.hr hs.fr (hs.hr.dom _ (view_length h)) hv
    rw [← view_append] at h2 h3 h4
    exact gives_wp (opA_nd ho0) (.inl h1) (hK u w' _ h2 h3 h4)
  | heavy =>
    simp only [hk] at ho
    obtain ⟨u, w', ρ', h1, h2, h3, h4⟩ := heavyA_run hS ho hs.hr hs.fr
    exact gives_wp (opA_nd ho0) h1 (hK u w' ρ' h2 h3 h4)
  | call =>
    simp only [hk] at ho
    cases hop : o.op with
    | call c =>
      obtain ⟨callee, args, ats⟩ := c
      cases callee with
      | value g =>
        simp only [callA, hop] at ho
        obtain ⟨vg, hvg, ho⟩ := R.bind_ok ho
        have hcg := ev_cr hs.fr hs.hr.glob' hvg
        obtain ⟨ug, hug⟩ : ∃ u, a.eval g = u := ⟨_, rfl⟩
        rw [hug] at hcg
        cases hcg with
        | @clo fid first caps fa ca hf1 hc1 vs us g1 g2 g3 g4 =>
          simp only at ho
          obtain ⟨as, has, ho⟩ := R.bind_ok ho
          have hca := evs_cr hs.fr hs.hr.glob' has
          have hargs : CRs (Forb A ρ (view h)) ρ w (first ++ args.map a.eval ++ caps).toList (fa ++ as ++ ca) := by
            rw [Array.toList_append, Array.toList_append, Array.toList_map]
            have row : ∀ {xs : Array Value} {l : List AV} {q : Nat → Value}, xs.size = l.length → (∀ (j : Nat) y, l[j]? = some y → xs[j]? = some (q j)) → (∀ (j : Nat) y, l[j]? = some y → CR (Forb A ρ (view h)) ρ w (q j) y) → CRs (Forb A ρ (view h)) ρ w xs.toList l := by
              intro xs l q k1 k2 k3
              refine ⟨by simpa using k1, fun j v y hv hy => ?_⟩
              rw [Array.getElem?_toList, k2 j y hy] at hv
              cases hv; exact k3 j y hy
            exact ((row hf1 g1 g2).append hca).append (row hc1 g3 g4)
          obtain ⟨hen, hcalls⟩ : (∀ W, (callFunc fid (first ++ args.map a.eval ++ caps)).run E.P W = .ok (.enter fid (first ++ args.map a.eval ++ caps)) W) ∧ Calls E.P fid (first ++ args.map a.eval ++ caps) w fun e w' => ∃ v ρ', e = .returned v ∧ Ext (Own ρ (view h)) ρ w (Own ρ' (view h')) ρ' w' ∧ HR E.G A ρ' w' (view h') ∧ CR (Forb A ρ' (view h')) ρ' w' v y := by
            split at ho
            · rename_i r hr
              exact hC _ _ h y h' (by simp only [hr]; exact ho) A ρ w _ hs.hr hargs
            · exact hcall _ _ _ _ _ ho A ρ w _ hs.hr hargs
          have hrun : (execOp a.eval o).run E.P w = .ok (.enter fid (first ++ args.map a.eval ++ caps)) w := by
            unfold execOp
            have := hen w
            rw [Array.append_assoc] at this ⊢
            simp [hop, resolve, hug, Deferred.ofValue, invoke, this]
          refine enters_wp (opA_nd ho0) hrun hcalls ?_
          rintro e w' ⟨v, ρ', rfl, h1, h2, h3⟩
          exact ⟨v, rfl, hK v w' ρ' h1 h2 h3⟩
        | _ => cases ho
      | builtin b => simp only [callA, hop] at ho; cases ho
      | invoke r m => simp only [callA, hop] at ho; cases ho
    | _ => simp only [callA, hop] at ho; cases ho

theorem stepA_wp (hS : Smet E.P E.S) (hC : COK E) {call : CallF} (hcall : CallOK E call) {f : FuncId} {ops : Array Oper} {τ τ' : Fr} {h h' : H} {o : Oper} {N : Nat} (ho : stepA E f call N ops τ h o = .ok (τ', h')) {A : Area} {ρ : Rho} {w : World} {a : Act} (hs : St E A ρ w a τ (view h) N s0)
    {K : Act → World → Prop} {Q : Exit → Act → World → Prop} (hK : ∀ a' w' ρ', Ext (Own ρ (view h)) ρ w (Own ρ' (view h')) ρ' w' → St E A ρ' w' a' τ' (view h') N s0 → K a' w') :
    if Region.wanted o (yielded ops a.tmps) = true then o.wpIn (fw rd) nn E.P a w K Q else K (a.put o.dst Go.undef) w := by
  unfold stepA at ho
  split at ho
  · cases ho
  rename_i hgt
  rw [want_eq hs.fr ops o (by simpa using hgt)]
  split at ho
  · rename_i hw
    rw [if_pos hw]
    split at ho
    · rename_i v h2 hop
      obtain ⟨τ2, hp, ho⟩ := R.bind_ok ho
      cases ho
      exact opA_wp hS hC hcall hop hs (fun v w' ρ' h1 h2 h3 => hK _ _ _ h1 (hs.put h1 h2 h3 hp))
    · cases ho
  · rename_i hw
    rw [if_neg hw]
    obtain ⟨τ2, hp, ho⟩ := R.bind_ok ho
    cases ho
    exact hK _ _ ρ (Ext.refl _ _ _) (hs.put (Ext.refl _ _ _) hs.hr undef_cr hp)

theorem opsA_wp (hS : Smet E.P E.S) (hC : COK E) {call : CallF} (hcall : CallOK E call) {f : FuncId} {ops : Array Oper} {N : Nat} {A : Area} {Q : Exit → Act → World → Prop} {τ' : Fr} {h' : H} : ∀ (m k : Nat) (τ : Fr) (h : H) (ρ : Rho) (w : World) (a : Act), k + m = ops.size →
    opsA E f call N ops (ops.toList.drop k) τ h = .ok (τ', h') → St E A ρ w a τ (view h) N s0 →
    (∀ a' w' ρ', Ext (Own ρ (view h)) ρ w (Own ρ' (view h')) ρ' w' → St E A ρ' w' a' τ' (view h') N s0 → Q .normal a' w') → wpOpsIn (fw rd) nn E.P ops Q (List.range' k m) a w
  | 0, k, τ, h, ρ, w, a, hk, ho, hs, hQ => by
    rw [List.drop_eq_nil_of_le (by simp; omega)] at ho
    cases ho
    exact hQ a w ρ (Ext.refl _ _ _) hs
  | m + 1, k, τ, h, ρ, w, a, hk, ho, hs, hQ => by
    have hlt : k < ops.toList.length := by simp; omega
    rw [List.drop_eq_getElem_cons hlt] at ho
    obtain ⟨⟨τ1, h1⟩, hst, ho⟩ := R.bind_ok ho
    rw [List.range'_succ]
    have hget : ops[k]? = some ops.toList[k] := by simp [Array.getElem?_eq_getElem (by simpa using hlt : k < ops.size)]
    simp only [wpOpsIn, hget]
    have := stepA_wp (rd := rd) (nn := nn) (Q := Q) hS hC hcall hst hs (K := wpOpsIn (fw rd) nn E.P ops Q (List.range' (k + 1) m)) (fun a1 w1 ρ1 hx hs1 => opsA_wp hS hC hcall m (k + 1) τ1 h1 ρ1 w1 a1 (by omega) ho hs1 (fun a2 w2 ρ2 hx2 hs2 => hQ a2 w2 ρ2 (hx.trans hx2) hs2))
    split
    · rename_i hw
      rw [if_pos hw] at this; exact this
    · rename_i hw
      rw [if_neg hw] at this; exact ⟨fun _ _ => trivial, this⟩
end
end Go.Proofs.YthfkkflogbibfaaGreatDoor.AM
