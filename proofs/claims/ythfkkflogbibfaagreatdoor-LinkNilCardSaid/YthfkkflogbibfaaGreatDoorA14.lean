/- The abstract machine: append, copy, and maps that are written (3). -/
import Derived.Test.YthfkkflogbibfaaGreatDoorA13
namespace Go.Proofs.YthfkkflogbibfaaGreatDoor.AM
set_option linter.unusedSectionVars false
set_option linter.unusedVariables false
set_option linter.unusedSimpArgs false

section
variable {F : Area} {ρ : Rho} {w : World} {G : Nat → Option (List AV)} {A : Area} {g : View} {w' : World}

theorem plain1_bits {x y : AV} (h : plain1 x y = true) {u v : Value} (hu : CR F ρ w u x) (hv : CR F ρ w v y) (n : Nat) : Instr.sameBits n v u = true := by
  cases x <;> cases y <;> simp [plain1] at h <;> cases hu <;> cases hv
  · subst h; cases n <;> simp [Instr.sameBits]
  · obtain ⟨rfl, rfl⟩ := h; cases n <;> simp [Instr.sameBits]
  · have h2 : ∀ a b : ByteArray, (a == b) = true → (b == a) = true := fun a b h => by
      rw [beq_toListBytes] at h ⊢
      rw [beq_iff_eq] at h ⊢; exact h.symm
    cases n <;> simp only [Instr.sameBits] <;> exact h2 _ _ h
theorem plains_bits : ∀ {xs ys : List AV} {us vs : List Value}, plains xs ys = true → CRs F ρ w us xs → CRs F ρ w vs ys → ∀ n, us.length = vs.length ∧ (vs.zip us).all (fun (x, y) => Instr.sameBits n x y) = true
  | [], [], us, vs, h, hu, hv, n => by
    obtain rfl := List.eq_nil_of_length_eq_zero hu.1
    obtain rfl := List.eq_nil_of_length_eq_zero hv.1
    exact ⟨rfl, rfl⟩
  | x :: xs, y :: ys, us, vs, h, hu, hv, n => by
    cases us with
    | nil => have := hu.1; simp at this
    | cons u us =>
      cases vs with
      | nil => have := hv.1; simp at this
      | cons v vs =>
        simp only [plains, Bool.and_eq_true] at h
        obtain ⟨h1, h2⟩ := plains_bits h.2 hu.tail hv.tail n
        refine ⟨by simp [h1], ?_⟩
        simp only [List.zip_cons_cons, List.all_cons, Bool.and_eq_true]
        exact ⟨plain1_bits h.1 hu.head hv.head n, h2⟩
  | [], _ :: _, us, vs, h, hu, hv, n => by simp [plains] at h
  | _ :: _, [], us, vs, h, hu, hv, n => by simp [plains] at h
theorem plainEq_bits {x y : AV} (h : plainEq x y = true) {u v : Value} (hu : CR F ρ w u x) (hv : CR F ρ w v y) : Instr.sameBits 10000 v u = true := by
  unfold plainEq at h
  split at h
  · obtain ⟨us, rfl, hus⟩ := hu.agg_inv
    obtain ⟨vs, rfl, hvs⟩ := hv.agg_inv
    obtain ⟨h1, h2⟩ := plains_bits h hus hvs 9999
    rw [show (10000 : Nat) = 9999 + 1 from rfl]
    simp only [Instr.sameBits, Bool.and_eq_true, beq_iff_eq]
    simp only [Array.length_toList] at h1
    exact ⟨h1.symm, h2⟩
  · exact plain1_bits h hu hv _

variable {E : Env}

theorem mapSet_run (hS : Smet E.P E.S) {h : H} {t kt et : TypeId} (ht : E.P.underlying t = some (.map kt et)) {b : Nat} {es : List (AV × AV)} (hb : h[b]? = some (.map es)) {k v : AV} (hka : keyA E.P 99 kt k = true) {r : Option (Nat × AV)}
    (hf : find (eqT E.P E.S 99 kt) k es = some r) {es' : List (AV × AV)} (he : match r with | some (i, _) => (∃ e, es[i]? = some e ∧ plainEq k e.1 = true) ∧ es' = es.set i (k, v) | none => es' = es ++ [(k, v)])
    (hr : HR E.G A ρ w (view h)) {vm vk vv : Value} (hm : CR (Forb A ρ (view h)) ρ w vm (.map b)) (hk : CR (Forb A ρ (view h)) ρ w vk k) (hv : CR (Forb A ρ (view h)) ρ w vv v) :
    ∃ w', (Instr.mapUpdate t vm vk vv).run E.P w = .ok () w' ∧ Ext (Own ρ (view h)) ρ w (Own ρ (view (h.set b (.map es')))) ρ w' ∧ HR E.G A ρ w' (view (h.set b (.map es'))) := by
  cases hm with
  | @map _ B hb0 =>
    have hbv : view h b = some (.map es) := hb
    obtain ⟨B', k', h1, _, h0, ents, clock, h3, h4, h5⟩ := hr.blk b _ hbv nofun
    rw [hb0] at h1; cases h1
    have hent : EntsR (Forb A ρ (view h)) ρ w ents.toList es := ⟨by simpa using h4, fun i e x he hx => h5 i e x (by rw [Array.getElem?_toList] at he; exact he) hx⟩
    obtain ⟨r', hr1, hr2⟩ := findKey_run hS hka hk hf hent
    have hgo : (getObj B).run E.P w = .ok (.map ents clock) w := by simp [getObj, Sem.run, h3]
    have hck : (Instr.checkKey false 10000 kt vk).run E.P w = .ok () w := (keyAF 99).1 kt k hka 10000 (by omega) _ _ w false _ hk
    have hset : ∀ o, (setObj B o).run E.P w = .ok () { w with heap := w.heap.setIfInBounds B o } := fun o => by simp [setObj, Sem.run, h3]
    have fin : ∀ (ents' : Array MapEntry) (clock' : Nat), ents'.size = es'.length → (∀ (i : Nat) (e : MapEntry) (x : AV × AV), ents'[i]? = some e → es'[i]? = some x → CR (Forb A ρ (view h)) ρ w e.key x.1 ∧ CR (Forb A ρ (view h)) ρ w e.val x.2) →
        (Instr.mapUpdate t (.map (some B)) vk vv).run E.P w = .ok () { w with heap := w.heap.setIfInBounds B (.map ents' clock') } →
        ∃ w', (Instr.mapUpdate t (.map (some B)) vk vv).run E.P w = .ok () w' ∧ Ext (Own ρ (view h)) ρ w (Own ρ (view (h.set b (.map es')))) ρ w' ∧ HR E.G A ρ w' (view (h.set b (.map es'))) := by
      intro ents' clock' hsz hrel hrun
      obtain ⟨m1, m2⟩ := hr.modify (w' := { w with heap := w.heap.setIfInBounds B (.map ents' clock') }) hb0 hbv rfl rfl ⟨rfl, rfl, rfl⟩ (fun cs e fz hc => by rw [h3] at hc; cases hc) (.map es')
      rw [view_set hb]
      refine ⟨_, hrun, m1, m2 ⟨rfl, ents', clock', Array.getElem?_setIfInBounds_self_of_lt (lt_of_get h3), hsz, fun i e x he hx => ?_⟩⟩
      exact ⟨(hrel i e x he hx).1.ext m1, (hrel i e x he hx).2.ext m1⟩
    cases r with
    | none =>
      cases r' with
      | some p => simp [FoundR] at hr2
      | none =>
        simp only at he
        subst he
        refine fin (ents.push { key := vk, val := vv, born := clock }) (clock + 1) (by simp [h4]) (fun i e x he hx => ?_) ?_
        · rw [Array.getElem?_push] at he
          split at he
          · rename_i hi
            cases he
            rw [hi, h4, List.getElem?_append_right (Nat.le_refl _)] at hx
            simp at hx; subst hx
            exact ⟨hk, hv⟩
          · rename_i hi
            have hlt := lt_of_get he
            rw [List.getElem?_append_left (by omega)] at hx
            exact h5 i e x he hx
        · simp [Instr.mapUpdate, run_underlying ht, hgo, hck, hr1, hset]
    | some p =>
      obtain ⟨i, u⟩ := p
      cases r' with
      | none => simp [FoundR] at hr2
      | some p' =>
        obtain ⟨i', u'⟩ := p'
        simp only [FoundR, Nat.zero_add] at hr2
        obtain ⟨rfl, _⟩ := hr2
        simp only at he
        obtain ⟨⟨e0, he0, hpl⟩, rfl⟩ := he
        have hlt : i' < ents.size := by rw [h4]; exact lt_of_getl he0
        have hold := h5 i' ents[i'] e0 (Array.getElem?_eq_getElem hlt) he0
        have hbits := plainEq_bits hpl hk hold.1
        refine fin (ents.modify i' fun e => { e with key := vk, val := vv }) clock (by simp [h4]) (fun j e x he hx => ?_) ?_
        · rw [Array.getElem?_modify] at he
          rw [List.getElem?_set] at hx
          split at he
          · rename_i hij
            subst hij
            rw [Array.getElem?_eq_getElem hlt] at he
            simp only [Option.map_some, Option.some.injEq] at he
            subst he
            rw [if_pos rfl, if_pos (by omega)] at hx
            cases hx
            exact ⟨hk, hv⟩
          · rename_i hij
            rw [if_neg hij] at hx
            exact h5 j e x he hx
        · have hkts : (Instr.keyThatStays ents[i'].key vk).run E.P w = .ok vk w := by simp [Instr.keyThatStays, hbits]
          simp [Instr.mapUpdate, run_underlying ht, hgo, hck, hr1, hset, Array.getElem?_eq_getElem hlt, hkts]

theorem copyA_run {dt st : TypeId} {d s y : AV} {h h' : H} (hc : copyA E.P dt st d s h = .ok (y, h')) (hr : HR E.G A ρ w (view h)) {vd vs : Value} (hd : CR (Forb A ρ (view h)) ρ w vd d) (hs : CR (Forb A ρ (view h)) ρ w vs s) (ty : TypeId) :
    ∃ v w', (Builtin.copy_ #[dt, st] ty #[vd, vs]).run E.P w = .ok v w' ∧ Ext (Own ρ (view h)) ρ w (Own ρ (view h')) ρ w' ∧ HR E.G A ρ w' (view h') ∧ CR (Forb A ρ (view h')) ρ w' v y := by
  obtain ⟨de, hde, hc1⟩ := R.bind_ok hc
  clear hc
  split at hc1
  case h_2 => cases hc1
  rename_i e
  obtain ⟨sz, hsz, hc⟩ := R.bind_ok hc1
  clear hc1
  obtain ⟨new, hnew, hc1⟩ := R.bind_ok hc
  clear hc
  obtain ⟨_, hlen, hns, hfirst⟩ := newsA_run hnew hr (fun _ _ => rfl) hs
  have e1 := run_under hde w
  cases hd with
  | nils =>
    cases hc1
    obtain ⟨arr, h1, h2⟩ := hfirst 0 (Nat.zero_le _)
    refine ⟨.int .i64 0, w, ?_, Ext.refl _ _ _, hr, .int _ _⟩
    simp [Builtin.copy_, e1, hlen, run_size hsz, h1, goInt]
  | @sl b B o off len sz' c clip cs e' fz hb0 hb hr' hl hcl ho =>
    simp only at hc1
    cases hls : h[b]? with
    | none => simp [hls] at hc1
    | some blk =>
      cases blk with
      | arr sz'' l =>
        simp only [hls] at hc1
        split at hc1
        · rename_i hcond
          obtain ⟨rfl, rfl, hol, hleaf⟩ := hcond
          cases hc1
          have hbv : view h b = some (.arr sz l) := hls
          obtain ⟨B1, k1, hρt, _, hk1, cs1, e1', fz1, hb1, hth1, hsz1, hel1⟩ := hr.blk b _ hbv nofun
          rw [hb0] at hρt; cases hρt
          rw [hb] at hb1; cases hb1
          have hnl : (flat new).all AV.leaf = true := by
            rw [List.all_eq_true] at hleaf ⊢
            intro y hy
            obtain ⟨x, hx, hyx⟩ := List.mem_flatMap.1 hy
            exact List.all_eq_true.1 (hleaf x hx) y hyx
          obtain ⟨arr, h1, h2⟩ := hfirst (min new.length len) (Nat.min_le_left _ _)
          have hnt : ∀ y, y ∈ new.take (min new.length len) → y.cells.length = sz := fun y hy => hns y (List.mem_of_mem_take hy)
          have harr : arr.toList.length = min new.length len * sz := by rw [h2.1, flat_length hnt]; simp
          have hnl2 : (flat (new.take (min new.length len))).all AV.leaf = true := by
            rw [← flat_take hns, List.all_eq_true]
            exact fun y hy => List.all_eq_true.1 hnl y (List.mem_of_mem_take hy)
          have hle : off * sz + min new.length len * sz ≤ l.length * sz := by rw [← Nat.add_mul]; exact Nat.mul_le_mul_right _ (by omega)
          obtain ⟨o', ho', hst⟩ : ∃ o', (arr.toList = [] ∨ o' = o) ∧ o' = off * sz := by
            refine ⟨off * sz, ?_, rfl⟩
            rcases ho with h' | h'
            · left
              have : min new.length len = 0 := by omega
              rw [this, Nat.zero_mul] at harr
              exact List.eq_nil_of_length_eq_zero harr
            · right; exact h'.symm
          have hone := leaves_one h2 hnl2
          have hstore : (storeCells ⟨B, o, none⟩ arr.toList).run E.P w = .ok () { w with heap := w.heap.setIfInBounds B (.cells (putL cs o' arr.toList) e' fz) } := by
            rcases ho' with h' | h'
            · rw [h']; simp [storeCells, putL, set_same hb]
            · subst h'
              have := storeCells_run (P := E.P) (B := B) (o := o') arr.toList 0 cs w hb (by omega) (fun off p1 p2 => hth1 off (Nat.zero_le _) p2) hone
              rw [Nat.add_zero] at this; exact this
          subst hst
          obtain ⟨m1, m2⟩ := hr.modify (w' := { w with heap := w.heap.setIfInBounds B (.cells (putL cs (off * sz) arr.toList) e' fz) }) hb0 hbv rfl rfl ⟨rfl, rfl, rfl⟩
            (fun cs1 e1 fz1 hb1 => by rw [hb] at hb1; cases hb1; exact ⟨_, rfl, putL_size ..⟩) (.arr sz (l.take off ++ new.take (min new.length len) ++ l.drop (off + min new.length len)))
          rw [view_set hls]
          have hnewlen : (l.take off ++ new.take (min new.length len) ++ l.drop (off + min new.length len)).length = l.length := by simp; omega
          have hflat : flat (l.take off ++ new.take (min new.length len) ++ l.drop (off + min new.length len)) = setCells (flat l) (off * sz) (flat (new.take (min new.length len))) := by
            have hln : (flat (new.take (min new.length len))).length = min new.length len * sz := by rw [flat_length hnt]; simp
            rw [setCells_eq _ _ _ (by rw [flat_length hel1.1, hln]; exact hle), hln, ← Nat.add_mul, flat_take hel1.1, flat_drop hel1.1, flat_append, flat_append]
          refine ⟨.int .i64 (min new.length len : Nat), _, ?_, m1, m2 ⟨rfl, _, _, _, Array.getElem?_setIfInBounds_self_of_lt (lt_of_get hb), by rw [putL_size]; exact hth1, by rw [hnewlen, putL_size]; exact hsz1, ⟨fun y hy => ?_, ?_⟩⟩, .int _ _⟩
          · simp only [Builtin.copy_, List.getElem?_toArray, List.getElem?_cons_zero, List.getElem?_cons_succ, Sem.run_bind, e1, hlen, Result.andThen_ok, run_size hsz]
            have : Nat.min new.length len = min new.length len := rfl
            simp only [this, h1, Result.andThen_ok, Sem.run_bind, hstore, Sem.run_pure, goInt]
          · rcases List.mem_append.1 hy with hy | hy
            · rcases List.mem_append.1 hy with hy | hy
              · exact hel1.1 y (List.mem_of_mem_take hy)
              · exact hnt y hy
            · exact hel1.1 y (List.mem_of_mem_drop hy)
          · rw [hflat, hnewlen, List.drop_zero]
            have hrow := hel1.2
            rw [List.drop_zero] at hrow
            refine ⟨by rw [setCells_length, flat_length hel1.1]; simp [putL_size]; omega, fun j u z hu hz => ?_⟩
            have hln : (flat (new.take (min new.length len))).length = min new.length len * sz := by rw [flat_length hnt]; simp
            rw [setCells_get _ _ _ _ (by rw [flat_length hel1.1, hln]; exact hle), hln] at hz
            rw [List.getElem?_take] at hu
            split at hu
            · rename_i hj
              rw [Array.getElem?_toList, putL_get _ _ _ _ (by omega), harr] at hu
              split at hz
              · rename_i hjj
                rw [if_pos hjj] at hu
                exact (h2.2 _ u z hu hz).ext m1
              · rename_i hjj
                rw [if_neg hjj] at hu
                exact (hrow.2 j u z (by rw [List.getElem?_take, if_pos hj, Array.getElem?_toList]; exact hu) hz).ext m1
            · cases hu
        · cases hc1
      | _ => simp [hls] at hc1
  | _ => cases hc1

variable {a : Act} {τ : Fr}

theorem append_args {P : Program} {ats : Array TypeId} {t u : TypeId} (ht : ats[0]? = some t) (hu : ats[1]? = some u) (ty : TypeId) (args : Array Value) : Builtin.append_ ats ty args = Builtin.append_ #[t, u] ty args := by
  unfold Builtin.append_
  simp only [ht, hu, List.getElem?_toArray, List.getElem?_cons_zero, List.getElem?_cons_succ]
theorem copy_args {P : Program} {ats : Array TypeId} {t u : TypeId} (ht : ats[0]? = some t) (ty : TypeId) (args : Array Value) : Builtin.copy_ ats ty args = Builtin.copy_ #[t, u] ty args := by
  unfold Builtin.copy_
  simp only [ht, List.getElem?_toArray, List.getElem?_cons_zero, List.getElem?_cons_succ]

theorem two_args {args : Array Operand} {f : Operand → Value} {x y : AV} (h : CRs F ρ w (args.toList.map f) [x, y]) : ∃ u v, args.map f = #[u, v] ∧ CR F ρ w u x ∧ CR F ρ w v y := by
  cases hv : args.toList.map f with
  | nil => rw [hv] at h; have := h.1; simp at this
  | cons u rest =>
    rw [hv] at h
    cases rest with
    | nil => have := h.1; simp at this
    | cons v rest =>
      obtain rfl : rest = [] := by have := h.1; simpa using this
      exact ⟨u, v, map_toArray1 hv, h.head, h.tail.head⟩

/-- what an operation gives: a value, or nothing. -/
def Gives (P : Program) (s : Sem Next) (w : World) (v : Value) (w' : World) : Prop := s.run P w = .ok (.value v) w' ∨ (s.run P w = .ok .skip w' ∧ v = Go.undef)

theorem undef_cr : CR F ρ w Go.undef undef := .tup_of .nil

theorem heavyA_run (hS : Smet E.P E.S) {f : FuncId} {h h' : H} {o : Oper} {y : AV} (ha : heavyA E f τ h o = .ok (y, h')) (hr : HR E.G A ρ w (view h)) (hf : FRel (Forb A ρ (view h)) ρ w a.tmps τ) :
    ∃ v w' ρ', Gives E.P (execOp a.eval o) w v w' ∧ Ext (Own ρ (view h)) ρ w (Own ρ' (view h')) ρ' w' ∧ HR E.G A ρ' w' (view h') ∧ CR (Forb A ρ' (view h')) ρ' w' v y := by
  have hg := hr.glob'
  unfold execOp
  have upd : ∀ {t m k x}, ((ev E τ m).bind fun m => (ev E τ k).bind fun k => (ev E τ x).bind fun v => (under E.P t).bind fun
    | .map kt _ => match m with
      | .map b => match h[b]? with
        | some (.map es) => if keyA E.P 99 kt k = false then .no "mapUpdate: key" else (lift "mapUpdate: key" (find (eqT E.P E.S 99 kt) k es)).bind fun
          | some (i, _) => match es[i]? with
            | some e => if plainEq k e.1 then .ok (undef, h.set b (.map (es.set i (k, v)))) else .no "mapUpdate: key"
            | none => .no "mapUpdate"
          | none => .ok (undef, h.set b (.map (es ++ [(k, v)])))
        | _ => .no "mapUpdate"
      | _ => .no "mapUpdate"
    | _ => .no "mapUpdate") = R.ok (y, h') → ∃ v w' ρ', Gives E.P (do Instr.mapUpdate t (a.eval m) (a.eval k) (a.eval x); pure .skip) w v w' ∧ Ext (Own ρ (view h)) ρ w (Own ρ' (view h')) ρ' w' ∧ HR E.G A ρ' w' (view h') ∧ CR (Forb A ρ' (view h')) ρ' w' v y := by
    intro t m k x ha
    obtain ⟨vm, hm, ha1⟩ := R.bind_ok ha
    clear ha
    obtain ⟨vk, hk, ha⟩ := R.bind_ok ha1
    clear ha1
    obtain ⟨vx, hx, ha1⟩ := R.bind_ok ha
    clear ha
    obtain ⟨d, hd, ha⟩ := R.bind_ok ha1
    clear ha1
    have hdd := under_ok hd
    clear hd
    cases d with
    | map kt et =>
      cases vm with
      | map b =>
        simp only at ha
        cases hb : h[b]? with
        | none => simp [hb] at ha
        | some blk =>
        cases blk with
        | map es =>
          simp only [hb] at ha
          split at ha
          · cases ha
          · rename_i hka
            have hka : keyA E.P 99 kt vk = true := by simpa using hka
            obtain ⟨r, hfr, ha1⟩ := R.bind_ok ha
            clear ha
            have hfr := lift_ok hfr
            cases r with
            | none =>
              cases ha1
              obtain ⟨w', h1, h2, h3⟩ := mapSet_run hS hdd hb hka hfr (es' := es ++ [(vk, vx)]) rfl hr (ev_cr hf hg hm) (ev_cr hf hg hk) (ev_cr hf hg hx)
              exact ⟨Go.undef, w', ρ, .inr ⟨by simp [h1], rfl⟩, h2, h3, undef_cr⟩
            | some p =>
              obtain ⟨i, u⟩ := p
              simp only at ha1
              cases he : es[i]? with
              | none => simp [he] at ha1
              | some e =>
                simp only [he] at ha1
                split at ha1
                · rename_i hpl
                  cases ha1
                  obtain ⟨w', h1, h2, h3⟩ := mapSet_run hS hdd hb hka hfr (es' := es.set i (vk, vx)) ⟨⟨e, he, hpl⟩, rfl⟩ hr (ev_cr hf hg hm) (ev_cr hf hg hk) (ev_cr hf hg hx)
                  exact ⟨Go.undef, w', ρ, .inr ⟨by simp [h1], rfl⟩, h2, h3, undef_cr⟩
                · cases ha1
        | _ => simp [hb] at ha
      | _ => cases ha
    | _ => cases ha
  cases ho : o.op with
  | store t p x =>
    simp only [heavyA, ho] at ha
    obtain ⟨vp, hp, ha1⟩ := R.bind_ok ha
    obtain ⟨vx, hx, ha2⟩ := R.bind_ok ha1
    obtain ⟨h2, hst, ha3⟩ := R.bind_ok ha2
    cases ha3
    obtain ⟨w', h1, h2, h3⟩ := storeA_run hst hr (ev_cr hf hg hp) (ev_cr hf hg hx)
    exact ⟨Go.undef, w', ρ, .inr ⟨by simp [h1], rfl⟩, h2, h3, undef_cr⟩
  | mapUpdate t m k x => simp only [heavyA, ho] at ha; exact upd ha
  | insert t m k x => simp only [heavyA, ho] at ha; exact upd ha
  | call c =>
    obtain ⟨callee, args, ats⟩ := c
    cases callee with
    | builtin b =>
      simp only [heavyA, ho] at ha
      obtain ⟨vs, hvs, ha1⟩ := R.bind_ok ha
      clear ha
      have hc := evs_cr hf hg hvs
      split at ha1
      · obtain ⟨u, v, huv, hu, hv⟩ := two_args hc
        obtain ⟨t, ht, ha⟩ := R.bind_ok ha1
        obtain ⟨t2, ht2, ha⟩ := R.bind_ok ha
        obtain ⟨r, w', ρ', h1, h2, h3, h4⟩ := appendA_run ha hr hu hv o.type
        rw [← append_args (P := E.P) (lift_ok ht) (lift_ok ht2)] at h1
        exact ⟨r, w', ρ', .inl (by simp [resolve, invoke, builtin, huv, h1]), h2, h3, h4⟩
      · obtain ⟨u, v, huv, hu, hv⟩ := two_args hc
        obtain ⟨t, ht, ha⟩ := R.bind_ok ha1
        obtain ⟨t2, ht2, ha⟩ := R.bind_ok ha
        obtain ⟨r, w', h1, h2, h3, h4⟩ := copyA_run ha hr hu hv o.type
        rw [← copy_args (P := E.P) (lift_ok ht)] at h1
        exact ⟨r, w', ρ, .inl (by simp [resolve, invoke, builtin, huv, h1]), h2, h3, h4⟩
      · cases ha1
    | value f => simp only [heavyA, ho] at ha; cases ha
    | invoke r m => simp only [heavyA, ho] at ha; cases ha
  | _ => simp only [heavyA, ho] at ha; cases ha
end
end Go.Proofs.YthfkkflogbibfaaGreatDoor.AM
