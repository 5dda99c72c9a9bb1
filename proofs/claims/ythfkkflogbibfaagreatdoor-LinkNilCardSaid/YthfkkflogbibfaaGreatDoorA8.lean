/- The abstract machine: operations that look into memory are run by the model as the machine runs them (2). -/
import Derived.Test.YthfkkflogbibfaaGreatDoorA7
namespace Go.Proofs.YthfkkflogbibfaaGreatDoor.AM
set_option linter.unusedSectionVars false
set_option linter.unusedVariables false
set_option linter.unusedSimpArgs false

section
variable {F : Area} {ρ : Rho} {w : World}

/-! ## maps -/
def EntsR (F : Area) (ρ : Rho) (w : World) (ents : List MapEntry) (es : List (AV × AV)) : Prop :=
  ents.length = es.length ∧ ∀ (i : Nat) (e : MapEntry) (x : AV × AV), ents[i]? = some e → es[i]? = some x → CR F ρ w e.key x.1 ∧ CR F ρ w e.val x.2
theorem EntsR.head {e : MapEntry} {ents : List MapEntry} {x : AV × AV} {es : List (AV × AV)} (h : EntsR F ρ w (e :: ents) (x :: es)) : CR F ρ w e.key x.1 ∧ CR F ρ w e.val x.2 := h.2 0 e x rfl rfl
theorem EntsR.tail {e : MapEntry} {ents : List MapEntry} {x : AV × AV} {es : List (AV × AV)} (h : EntsR F ρ w (e :: ents) (x :: es)) : EntsR F ρ w ents es :=
  ⟨by simpa using h.1, fun i e x h1 h2 => h.2 (i + 1) e x (by simpa using h1) (by simpa using h2)⟩

/-- what is found here is found there. -/
def FoundR (F : Area) (ρ : Rho) (w : World) (n : Nat) : Option (Nat × Value) → Option (Nat × AV) → Prop
  | none, none => True
  | some (i, v), some (j, y) => i = n + j ∧ CR F ρ w v y
  | _, _ => False

theorem findNow_run {P : Program} {S : TypeId → Bool} {kt : TypeId} {d : TypeDesc} (hd : P.underlying kt = some d) (hs : ∀ fs, d ≠ .struct fs) {k : AV} {vk : Value} (hk : CR F ρ w vk k) :
    ∀ {es : List (AV × AV)} {ents : List MapEntry} {r : Option (Nat × AV)} (n : Nat), find (eqT P S 99 kt) k es = some r → EntsR F ρ w ents es →
    ∃ r', Instr.findNow d vk ents n = some r' ∧ FoundR F ρ w n r' r
  | [], ents, r, n, h, he => by
    obtain rfl : ents = [] := List.eq_nil_of_length_eq_zero he.1
    cases h; exact ⟨none, rfl, trivial⟩
  | (a, y) :: es, ents, r, n, h, he => by
    cases ents with
    | nil => have := he.1; simp at this
    | cons e ents =>
      have h0 := he.head
      simp only [find] at h
      have key : ∀ b, eqT P S 99 kt k a = some b → Instr.sameNow d vk e.key = some b := by
        intro b hb
        unfold eqT at hb
        split at hb
        · rename_i hd'
          rw [hd] at hd'; cases hd'
          have e1 := toV_eq (by rfl) hk
          have e2 := toV_eq (by rfl) h0.1
          cases hb; simp [Instr.sameNow, e1, e2]
        · rename_i hd'
          rw [hd] at hd'; cases hd'
          have e1 := toV_eq (by rfl) hk
          have e2 := toV_eq (by rfl) h0.1
          split at hb <;> cases hb
          rename_i hkk
          simp [Instr.sameNow, e1, e2, hkk]
        · rename_i hd'
          rw [hd] at hd'; cases hd'
          have e1 := toV_eq (by rfl) hk
          have e2 := toV_eq (by rfl) h0.1
          cases hb; simp [Instr.sameNow, e1, e2]
        · rename_i hd'
          rw [hd] at hd'; cases hd'
          exact absurd rfl (hs _)
        · cases hb
      split at h
      · rename_i hb
        cases h
        exact ⟨some (n, e.val), by simp [Instr.findNow, key _ hb], by exact ⟨by omega, h0.2⟩⟩
      · rename_i hb
        cases hf : find (eqT P S 99 kt) k es with
        | none => simp [hf] at h
        | some r0 =>
          simp [hf] at h
          subst h
          obtain ⟨r', h1, h2⟩ := findNow_run hd hs hk (n + 1) hf he.tail
          refine ⟨r', by simp [Instr.findNow, key _ hb, h1], ?_⟩
          cases r' <;> cases r0 <;> simp only [FoundR, Option.map_none, Option.map_some] at h2 ⊢
          exact ⟨by omega, h2.2⟩
      · cases h

theorem findAsking_run {P : Program} {S : TypeId → Bool} (hS : Smet P S) {kt : TypeId} {k : AV} {vk : Value} (hk : CR F ρ w vk k) :
    ∀ {es : List (AV × AV)} {ents : List MapEntry} {r : Option (Nat × AV)} (n : Nat), find (eqT P S 99 kt) k es = some r → EntsR F ρ w ents es →
    ∃ r', (Instr.findAsking kt vk ents n).run P w = .ok r' w ∧ FoundR F ρ w n r' r
  | [], ents, r, n, h, he => by
    obtain rfl : ents = [] := List.eq_nil_of_length_eq_zero he.1
    cases h; exact ⟨none, rfl, trivial⟩
  | (a, y) :: es, ents, r, n, h, he => by
    cases ents with
    | nil => have := he.1; simp at this
    | cons e ents =>
      have h0 := he.head
      simp only [find] at h
      split at h
      · rename_i hb
        cases h
        exact ⟨some (n, e.val), by simp [Instr.findAsking, eqT_run hS hb hk h0.1], by exact ⟨by omega, h0.2⟩⟩
      · rename_i hb
        cases hf : find (eqT P S 99 kt) k es with
        | none => simp [hf] at h
        | some r0 =>
          simp [hf] at h
          subst h
          obtain ⟨r', h1, h2⟩ := findAsking_run hS hk (n + 1) hf he.tail
          refine ⟨r', by simp [Instr.findAsking, eqT_run hS hb hk h0.1, h1], ?_⟩
          cases r' <;> cases r0 <;> simp only [FoundR, Option.map_none, Option.map_some] at h2 ⊢
          exact ⟨by omega, h2.2⟩
      · cases h

theorem findKey_run {P : Program} {S : TypeId → Bool} (hS : Smet P S) {kt : TypeId} {k : AV} (hka : keyA P 99 kt k = true) {vk : Value} (hk : CR F ρ w vk k) {es : List (AV × AV)} {ents : List MapEntry} {r : Option (Nat × AV)}
    (h : find (eqT P S 99 kt) k es = some r) (he : EntsR F ρ w ents es) : ∃ r', (Instr.findKey kt vk ents).run P w = .ok r' w ∧ FoundR F ρ w 0 r' r := by
  have hdd : ∃ d, P.underlying kt = some d ∧ ((∀ fs, d ≠ .struct fs) ∨ ∃ fs, d = .struct fs) := by
    unfold keyA at hka
    split at hka
    · rename_i hd; exact ⟨_, hd, .inl (fun fs h => by cases h)⟩
    · rename_i hd; exact ⟨_, hd, .inl (fun fs h => by cases h)⟩
    · rename_i hd; exact ⟨_, hd, .inl (fun fs h => by cases h)⟩
    · rename_i hd; exact ⟨_, hd, .inr ⟨_, rfl⟩⟩
    · cases hka
  obtain ⟨d, hd, hcase⟩ := hdd
  unfold Instr.findKey
  rw [Sem.run_bind, run_underlying hd, Result.andThen_ok]
  rcases hcase with hs | ⟨fs, rfl⟩
  · obtain ⟨r', h1, h2⟩ := findNow_run hd hs hk 0 h he
    exact ⟨r', by rw [h1]; rfl, h2⟩
  · cases ents with
    | nil =>
      obtain rfl : es = [] := by have := he.1; cases es <;> simp_all
      cases h
      exact ⟨none, rfl, trivial⟩
    | cons e ents =>
      obtain ⟨r', h1, h2⟩ := findAsking_run hS hk 0 h he
      refine ⟨r', ?_, h2⟩
      have : Instr.findNow (.struct fs) vk (e :: ents) 0 = none := by
        have : Instr.sameNow (.struct fs) vk e.key = none := by unfold Instr.sameNow; split <;> simp_all
        simp [Instr.findNow, this]
      rw [this]; exact h1

variable {G : Nat → Option (List AV)} {A : Area} {g : View}

theorem mapOf_run {P : Program} {h : H} {m : AV} {es : List (AV × AV)} (hm : mapOf h m = .ok es) (hr : HR G A ρ w g) (hd : ∀ b, depOf m = some b → g b = h[b]?) {v : Value} (hc : CR (Forb A ρ g) ρ w v m) :
    (v = .map none ∧ es = []) ∨ ∃ B ents clock, v = .map (some B) ∧ w.heap[B]? = some (.map ents clock) ∧ EntsR (Forb A ρ g) ρ w ents.toList es := by
  cases hc with
  | nilm => cases hm; exact .inl ⟨rfl, rfl⟩
  | @map b B hb0 =>
    simp only [mapOf] at hm
    split at hm
    · rename_i es' hes
      cases hm
      obtain ⟨B', k, h1, _, h2⟩ := hr.blk b _ ((hd b rfl).trans hes) nofun
      rw [hb0] at h1; cases h1
      obtain ⟨_, ents, clock, h3, h4, h5⟩ := h2
      exact .inr ⟨B, ents, clock, rfl, h3, by simpa using h4, fun i e x he hx => h5 i e x (by rw [Array.getElem?_toList] at he; exact he) hx⟩
    · cases hm
  | _ => cases hm

variable {E : Env} {a : Act} {τ : Fr}

theorem toBytes_leaf : ∀ {l : List AV} {bs : List UInt8}, toBytes l = .ok bs → ∀ y, y ∈ l → y.leaf = true
  | [], bs, h, y, hy => by simp at hy
  | x :: l, bs, h, y, hy => by
    unfold toBytes at h
    split at h
    · rename_i heq; cases heq
    · rename_i n l' heq
      cases heq
      obtain ⟨r, hr, h⟩ := R.bind_ok h
      rcases List.mem_cons.1 hy with rfl | hy
      · rfl
      · exact toBytes_leaf hr y hy
    · cases h

theorem readA_run (hS : Smet E.P E.S) (hr : HR E.G A ρ w g) (hf : FRel (Forb A ρ g) ρ w a.tmps τ) {h : H} {o : Oper} {y : AV} (hy : readA E τ h o = .ok y) (hd : ∀ b, readDep E τ o = some b → g b = h[b]?) :
    ∃ v, (execOp a.eval o).run E.P w = .ok (.value v) w ∧ CR (Forb A ρ g) ρ w v y := by
  have hg : Glob E (Forb A ρ g) ρ w := hr.glob
  unfold execOp
  cases ho : o.op with
  | load t x =>
    simp only [readA, ho] at hy
    obtain ⟨p, hp, hy⟩ := R.bind_ok hy
    obtain ⟨r, hr', hc⟩ := loadA_run hy hr (fun b hb => hd b (by simp [readDep, ho, hp, hb])) (ev_cr hf hg hp)
    exact ⟨r, by simp only [Sem.run_bind, hr', Result.andThen_ok]; rfl, hc⟩
  | convert src dst x =>
    simp only [readA, ho] at hy
    obtain ⟨p, hp, hy⟩ := R.bind_ok hy
    obtain ⟨us, hus, hy⟩ := R.bind_ok hy
    obtain ⟨ud, hud, hy⟩ := R.bind_ok hy
    have e1 := run_under hus w
    have e2 := run_under hud w
    clear hus hud
    split at hy
    · rename_i e
      obtain ⟨ue, hue, hy⟩ := R.bind_ok hy
      have e3 := run_under hue w
      split at hy
      · obtain ⟨s, hs, hy⟩ := R.bind_ok hy
        split at hy
        · rename_i hcond
          simp only [Bool.and_eq_true, beq_iff_eq] at hcond
          obtain ⟨l, hl, hy⟩ := R.bind_ok hy
          obtain ⟨bs, hbs, hy⟩ := R.bind_ok hy
          cases hy
          obtain ⟨hsz, hcase⟩ := elemsA_run hl hr (fun b hb => hd b (by simp [readDep, ho, hp, hb])) (ev_cr hf hg hp) hcond.1
          rcases hcase with ⟨rfl, b, hv⟩ | ⟨B, o', c, cs, e', fz, hv, hlc, hb, hel⟩
          · cases hbs
            refine ⟨.string ByteArray.empty, ?_, .str _⟩
            cases b with
            | none => simp [hv, convert, e1, e2, e3, Conv.bytesToString]
            | some a => simp [hv, convert, e1, e2, e3, Conv.bytesToString, loadCells, loadCellsFrom]
          · rcases Nat.eq_zero_or_pos l.length with h0 | h0
            · obtain rfl := List.eq_nil_of_length_eq_zero h0
              cases hbs
              have := cells_at (P := E.P) (F := Forb A ρ g) (ρ := ρ) (cs := cs) (o := o') (l := []) ⟨by simp, fun j v y h => by simp at h⟩ hb
              refine ⟨.string ByteArray.empty, ?_, .str _⟩
              simp only [Sem.run_bind, hv, convert, e1, e2, e3, Conv.bytesToString, Result.andThen_ok]
              simp only [List.length_nil] at this
              simp [this]
            · have hel := hel h0
              rw [hcond.2] at hel
              have hfl : flat l = l := flat_leaf (toBytes_leaf hbs)
              have h2 := hel.2
              rw [hfl, Nat.mul_one] at h2
              have hld := cells_at (P := E.P) h2 hb
              refine ⟨.string ⟨bs.toArray⟩, ?_, .str _⟩
              simp only [Sem.run_bind, hv, convert, e1, e2, e3, Conv.bytesToString, Result.andThen_ok, hld]
              rw [List.forIn_toArray, bytes_loop (P := E.P) _ (fun _ _ => rfl) ByteArray.empty hbs h2]
              simp
        · cases hy
      · cases hy
    · cases hy
  | lookup t m k ok =>
    simp only [readA, ho] at hy
    obtain ⟨am, hm, hy⟩ := R.bind_ok hy
    obtain ⟨ak, hk, hy⟩ := R.bind_ok hy
    obtain ⟨d, hd', hy⟩ := R.bind_ok hy
    have e1 := run_under hd' w
    split at hy
    · rename_i kt e
      obtain ⟨es, hes, hy⟩ := R.bind_ok hy
      obtain ⟨z, hz, hy⟩ := R.bind_ok hy
      split at hy
      · cases hy
      · rename_i hka
        have hka : keyA E.P 99 kt ak = true := by simpa using hka
        obtain ⟨r, hrr, hy⟩ := R.bind_ok hy
        have hck := ev_cr hf hg hk
        obtain ⟨zv, hzr, hzo⟩ := run_zero hz w
        have hce : ∀ em, (Instr.checkKey em 10000 kt (a.eval k)).run E.P w = .ok () w := fun em => (keyAF 99).1 kt ak hka 10000 (by omega) _ _ w em _ hck
        have fin : ∀ (ents : Array MapEntry), EntsR (Forb A ρ g) ρ w ents.toList es → ∃ r', (Instr.findKey kt (a.eval k) ents.toList).run E.P w = .ok r' w ∧ FoundR (Forb A ρ g) ρ w 0 r' r :=
          fun ents he => findKey_run hS hka hck (lift_ok hrr) he
        have this : ∃ v, (Instr.lookup t (a.eval m) (a.eval k) ok).run E.P w = .ok v w ∧ CR (Forb A ρ g) ρ w v y := by
          unfold Instr.lookup
          rw [Sem.run_bind, e1, Result.andThen_ok]
          have done : ∀ r', FoundR (Forb A ρ g) ρ w 0 r' r → ∃ v, CR (Forb A ρ g) ρ w v y ∧ v = (match r' with | some (_, v) => (if ok = true then Value.tuple #[v, Value.bool true] else v) | none => (if ok = true then Value.tuple #[zv, Value.bool false] else zv)) := by
            intro r' hfd
            refine ⟨_, ?_, rfl⟩
            cases r' <;> cases r <;> simp only [FoundR] at hfd
            · split at hy <;> rename_i hok <;> cases hy
              · rw [if_pos hok]; exact .tup_of (.cons (ofV_cr hzo) (.cons (.bool false) .nil))
              · rw [if_neg hok]; exact ofV_cr hzo
            · rename_i p q
              obtain ⟨i, v⟩ := p
              obtain ⟨j, u⟩ := q
              split at hy <;> rename_i hok <;> cases hy
              · simp only [if_pos hok]; exact .tup_of (.cons hfd.2 (.cons (.bool true) .nil))
              · simp only [if_neg hok]; exact hfd.2
          rcases mapOf_run (P := E.P) hes hr (fun b hb => hd b (by simp [readDep, ho, hm, hb])) (ev_cr hf hg hm) with ⟨hv, rfl⟩ | ⟨B, ents, clock, hv, hb, he⟩
          · obtain ⟨r', h1, h2⟩ := fin #[] ⟨rfl, fun i e x h => by simp at h⟩
            obtain ⟨v, h3, h4⟩ := done r' h2
            refine ⟨v, ?_, h3⟩
            simp only [hv, Sem.run_bind, Sem.run_pure, Result.andThen_ok, hce, h1]
            cases r' with
            | none => simp [hzr, h4]
            | some p => simp [h4]
          · obtain ⟨r', h1, h2⟩ := fin ents he
            obtain ⟨v, h3, h4⟩ := done r' h2
            refine ⟨v, ?_, h3⟩
            have hgo : (getObj B).run E.P w = .ok (.map ents clock) w := by simp [getObj, Sem.run, hb]
            simp only [hv, Sem.run_bind, hgo, Sem.run_pure, Result.andThen_ok, hce, h1]
            cases r' with
            | none => simp [hzr, h4]
            | some p => simp [h4]
        obtain ⟨v, h1, h2⟩ := this
        exact ⟨v, by simp only [Sem.run_bind, h1, Result.andThen_ok]; rfl, h2⟩
    · cases hy
  | call c =>
    obtain ⟨callee, args, ats⟩ := c
    cases callee with
    | builtin b =>
      cases b <;> simp only [readA, ho] at hy <;> first | (cases hy; done) | skip
      obtain ⟨vs, hvs, hy⟩ := R.bind_ok hy
      have hc := evs_cr hf hg hvs
      split at hy
      · rename_i x
        obtain ⟨t, ht, hy⟩ := R.bind_ok hy
        obtain ⟨d, hdd, hy⟩ := R.bind_ok hy
        have ht := lift_ok ht
        have e1 := run_under hdd w
        split at hy
        · obtain ⟨es, hes, hy⟩ := R.bind_ok hy
          cases hy
          cases hv : args.toList.map a.eval with
          | nil => rw [hv] at hc; have := hc.1; simp at this
          | cons v rest =>
            rw [hv] at hc
            obtain rfl : rest = [] := by have := hc.1; simpa using this
            have hv' := map_toArray1 hv
            have hdep : ∀ b, depOf x = some b → g b = h[b]? := fun b hb => hd b (by
              cases ha : args.toList with
              | nil => rw [ha] at hv; simp at hv
              | cons z zs =>
                cases zs with
                | cons z' zs => rw [ha] at hv; simp at hv
                | nil =>
                  rw [ha] at hvs
                  obtain ⟨u, hu, hvs⟩ := R.bind_ok hvs
                  cases hvs
                  simp [readDep, ho, ha, hu, hb])
            rcases mapOf_run (P := E.P) hes hr hdep hc.head with ⟨rfl, rfl⟩ | ⟨B, ents, clock, rfl, hb, he⟩
            · exact ⟨_, by simp [resolve, invoke, builtin, hv', Builtin.len_, ht, e1, goInt], .int _ _⟩
            · refine ⟨.int .i64 ents.size, by simp [resolve, invoke, builtin, hv', Builtin.len_, ht, e1, goInt, getObj, Sem.run, hb], ?_⟩
              have := he.1
              rw [Array.length_toList] at this
              rw [this]; exact .int _ _
        · cases hy
      · cases hy
    | value f => simp only [readA, ho] at hy; cases hy
    | invoke r m => simp only [readA, ho] at hy; cases hy
  | _ => simp only [readA, ho] at hy; cases hy
end
end Go.Proofs.YthfkkflogbibfaaGreatDoor.AM
