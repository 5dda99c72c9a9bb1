/- The abstract machine: operations that write memory. -/
import Derived.Test.YthfkkflogbibfaaGreatDoorA10
namespace Go.Proofs.YthfkkflogbibfaaGreatDoor.AM
set_option linter.unusedSectionVars false
set_option linter.unusedVariables false
set_option linter.unusedSimpArgs false

section
variable {F : Area} {ρ : Rho} {w : World}

def putL (cs : Array Value) (k : Nat) : List Value → Array Value
  | [] => cs
  | v :: vs => putL (cs.setIfInBounds k v) (k + 1) vs
theorem putL_size : ∀ (vs : List Value) (cs : Array Value) (k : Nat), (putL cs k vs).size = cs.size
  | [], cs, k => rfl
  | v :: vs, cs, k => by simp [putL, putL_size vs]
theorem putL_get : ∀ (vs : List Value) (cs : Array Value) (k j : Nat), k + vs.length ≤ cs.size → (putL cs k vs)[j]? = if k ≤ j ∧ j < k + vs.length then vs[j - k]? else cs[j]?
  | [], cs, k, j, h => by simp only [putL, List.length_nil]; rw [if_neg (by omega)]
  | v :: vs, cs, k, j, h => by
    simp only [List.length_cons] at h
    simp only [putL, List.length_cons]
    rw [putL_get vs _ (k + 1) j (by simp; omega)]
    by_cases h1 : k + 1 ≤ j ∧ j < k + 1 + vs.length
    · rw [if_pos h1, if_pos (by omega), show j - k = (j - (k + 1)) + 1 by omega, List.getElem?_cons_succ]
    · rw [if_neg h1]
      by_cases h2 : j = k
      · subst h2
        rw [if_pos (by omega), Nat.sub_self, Array.getElem?_setIfInBounds_self_of_lt (by omega)]; rfl
      · rw [if_neg (by omega), Array.getElem?_setIfInBounds_ne (by omega)]
theorem putL_cr : ∀ {vs : List Value} {cs : Array Value} {k : Nat} {acs l : List AV}, CRs F ρ w cs.toList acs → CRs F ρ w vs l → CRs F ρ w (putL cs k vs).toList (setCells acs k l)
  | [], cs, k, acs, l, h, h' => by
    obtain rfl : l = [] := by have := h'.1; cases l <;> simp_all
    exact h
  | v :: vs, cs, k, acs, l, h, h' => by
    cases l with
    | nil => have := h'.1; simp at this
    | cons y l =>
      simp only [putL, setCells]
      refine putL_cr ?_ h'.tail
      rw [Array.toList_setIfInBounds]
      exact h.set h'.head _

theorem set_same {h : Array Obj} {B : Nat} {o : Obj} (hb : h[B]? = some o) : h.setIfInBounds B o = h := by
  apply Array.ext_getElem?
  intro i
  by_cases hi : B = i
  · subst hi; rw [Array.getElem?_setIfInBounds_self_of_lt (lt_of_get hb), hb]
  · rw [Array.getElem?_setIfInBounds_ne hi]
theorem set_twice (h : Array Obj) (B : Nat) (o o' : Obj) : (h.setIfInBounds B o).setIfInBounds B o' = h.setIfInBounds B o' := by
  apply Array.ext_getElem?
  intro i
  by_cases hi : B = i
  · subst hi
    by_cases hlt : B < h.size
    · rw [Array.getElem?_setIfInBounds_self_of_lt (by simpa using hlt), Array.getElem?_setIfInBounds_self_of_lt hlt]
    · rw [Array.getElem?_eq_none (by simp; omega), Array.getElem?_eq_none (by simp; omega)]
  · rw [Array.getElem?_setIfInBounds_ne hi, Array.getElem?_setIfInBounds_ne hi, Array.getElem?_setIfInBounds_ne hi]

theorem setCell_eq {B off : Nat} {cs : Array Value} {e : TypeId} {fz : Nat × Nat} (hb : w.heap[B]? = some (.cells cs e fz)) (v : Value) : w.setCell ⟨B, off, none⟩ v = { w with heap := w.heap.setIfInBounds B (.cells (cs.setIfInBounds off v) e fz) } := by
  unfold World.setCell
  congr 1
  apply Array.ext_getElem?
  intro i
  rw [Array.getElem?_modify]
  by_cases hi : B = i
  · subst hi; rw [if_pos rfl, hb, Array.getElem?_setIfInBounds_self_of_lt (lt_of_get hb)]; simp
  · rw [if_neg hi, Array.getElem?_setIfInBounds_ne hi]

theorem storeCells_run {P : Program} {B o : Nat} {e : TypeId} {fz : Nat × Nat} : ∀ (vs : List Value) (i : Nat) (cs : Array Value) (w : World), w.heap[B]? = some (.cells cs e fz) → o + i + vs.length ≤ cs.size → Thawed fz (o + i) cs.size → (∀ v ∈ vs, v.oneCell' = true) →
    (storeCells ⟨B, o, none⟩ vs i).run P w = .ok () { w with heap := w.heap.setIfInBounds B (.cells (putL cs (o + i) vs) e fz) }
  | [], i, cs, w, hb, hl, hf, h1 => by simp [storeCells, putL, set_same hb]
  | v :: vs, i, cs, w, hb, hl, hf, h1 => by
    simp only [List.length_cons] at hl
    have hc : w.cell? ⟨B, o + i, none⟩ = some cs[o + i] := by simp [World.cell?, hb]
    have hfr : w.frozen? ⟨B, o + i, none⟩ = false := by
      have := hf (o + i) (Nat.le_refl _) (by omega)
      simp only [World.frozen?, hb]
      simpa using fun h => by omega
    simp only [storeCells, Sem.run_bind, add0]
    rw [run_store P w _ v _ (h1 v (List.mem_cons_self ..))]
    simp only [hc, hfr, Bool.false_eq_true, if_false, Result.andThen_ok]
    rw [setCell_eq hb]
    have ih := storeCells_run (P := P) (B := B) (o := o) (e := e) (fz := fz) vs (i + 1) (cs.setIfInBounds (o + i) v) { w with heap := w.heap.setIfInBounds B (.cells (cs.setIfInBounds (o + i) v) e fz) }
      (by rw [Array.getElem?_setIfInBounds_self_of_lt (lt_of_get hb)]) (by simp; omega) (fun off h1 h2 => hf off (by omega) (by simpa using h2)) (fun u hu => h1 u (List.mem_cons_of_mem _ hu))
    rw [ih]
    simp only [set_twice, putL, Nat.add_assoc]

theorem leaf_one {v : Value} {y : AV} (h : CR F ρ w v y) (hl : y.leaf = true) : v.oneCell' = true := by
  cases h <;> first | rfl | (simp [AV.leaf] at hl)
theorem leaves_one : ∀ {vs : List Value} {l : List AV}, CRs F ρ w vs l → l.all AV.leaf = true → ∀ v ∈ vs, v.oneCell' = true
  | [], l, h, hl, v, hv => by simp at hv
  | u :: vs, l, h, hl, v, hv => by
    cases l with
    | nil => have := h.1; simp at this
    | cons y l =>
      simp only [List.all_cons, Bool.and_eq_true] at hl
      rcases List.mem_cons.1 hv with rfl | hv
      · exact leaf_one h.head hl.1
      · exact leaves_one h.tail hl.2 v hv

theorem setCells_get (xs cs : List AV) (k j : Nat) (h : k + xs.length ≤ cs.length) : (setCells cs k xs)[j]? = if k ≤ j ∧ j < k + xs.length then xs[j - k]? else cs[j]? := by
  rw [setCells_eq xs cs k h, List.append_assoc]
  by_cases h1 : j < k
  · rw [List.getElem?_append_left (by simp; omega), if_neg (by omega), List.getElem?_take, if_pos h1]
  · rw [List.getElem?_append_right (by simp; omega)]
    have e1 : (cs.take k).length = k := by simp; omega
    rw [e1]
    by_cases h2 : j < k + xs.length
    · rw [List.getElem?_append_left (by omega), if_pos (by omega)]
    · rw [List.getElem?_append_right (by omega), if_neg (by omega), List.getElem?_drop]
      congr 1; omega

theorem mk_cells {x : AV} {off : Nat} {vc : List AV} (hl : vc.all AV.leaf = true) (h : off + vc.length ≤ x.cells.length) : (mk (setCells x.cells off vc) x).cells = setCells x.cells off vc := by
  cases x
  case agg cs => rfl
  all_goals
    simp only [AV.cells, List.length_cons, List.length_nil] at h
    cases vc with
    | nil => rfl
    | cons u us =>
      simp only [List.length_cons] at h
      obtain rfl : off = 0 := by omega
      obtain rfl : us = [] := List.eq_nil_of_length_eq_zero (by omega)
      simp only [List.all_cons, Bool.and_eq_true] at hl
      simp only [mk, setCells, AV.cells, List.set_cons_zero, List.headD_cons]
      exact leaf_cells hl.1

theorem setCells_in {l : List AV} {sz i off : Nat} {x : AV} {vc : List AV} (h : ∀ x, x ∈ l → x.cells.length = sz) (hx : l[i]? = some x) (hl : vc.all AV.leaf = true) (ho : off + vc.length ≤ x.cells.length) :
    setCells (flat l) (i * sz + off) vc = flat (l.set i (mk (setCells x.cells off vc) x)) := by
  have hm := mk_cells hl ho
  have hi := lt_of_getl hx
  have hxs := h x (List.mem_of_getElem? hx)
  have hle : i * sz + sz ≤ l.length * sz := by have := Nat.mul_le_mul_right sz (show i + 1 ≤ l.length from hi); rw [Nat.add_mul] at this; omega
  rw [← setCells_flat h (by rw [hm, setCells_length, hxs]) hi, hm]
  apply List.ext_getElem?
  intro j
  rw [setCells_get _ _ _ _ (by rw [flat_length h]; omega), setCells_get _ _ _ _ (by rw [flat_length h, setCells_length, hxs]; omega), setCells_length, hxs]
  by_cases h1 : i * sz ≤ j ∧ j < i * sz + sz
  · rw [if_pos h1, setCells_get _ _ _ _ ho]
    by_cases h2 : i * sz + off ≤ j ∧ j < i * sz + off + vc.length
    · rw [if_pos h2, if_pos (by omega)]; congr 1; omega
    · rw [if_neg h2, if_neg (by omega), ← flat_get h hx (show j - i * sz < sz by omega)]; congr 1; omega
  · rw [if_neg h1, if_neg (by omega)]

variable {G : Nat → Option (List AV)} {A : Area} {g : View} {w' : World}

theorem storeVar_run {P : Program} {t : TypeId} {v : Value} {s : Nat} (hs : size P t = .ok s) (hv : v.cells.size = s) {B o : Nat} {e : TypeId} {fz : Nat × Nat} {cs : Array Value} (hb : w.heap[B]? = some (.cells cs e fz)) (hl : o + s ≤ cs.size) (hf : Thawed fz o cs.size) (h1 : ∀ u ∈ v.cells.toList, u.oneCell' = true) :
    (storeVar t ⟨B, o, none⟩ v).run P w = .ok () { w with heap := w.heap.setIfInBounds B (.cells (putL cs o v.cells.toList) e fz) } := by
  have := storeCells_run (P := P) (o := o) v.cells.toList 0 cs w hb (by simp; omega) hf h1
  simp only [Nat.add_zero] at this
  simp [storeVar, run_size hs, hv, this]

theorem storeA_run {P : Program} {h h' : H} {t : TypeId} {p y : AV} (hy : storeA P h t y p = .ok h') (hr : HR G A ρ w (view h)) {u v : Value} (hu : CR (Forb A ρ (view h)) ρ w u p) (hv : CR (Forb A ρ (view h)) ρ w v y) :
    ∃ w', (Instr.storeAt t u v).run P w = .ok () w' ∧ Ext (Own ρ (view h)) ρ w (Own ρ (view h')) ρ w' ∧ HR G A ρ w' (view h') := by
  cases hu with
  | @ptr b B off hb0 =>
    simp only [storeA] at hy
    cases hcs : h[b]? with
    | none => simp [hcs] at hy
    | some blk =>
      cases blk with
      | var cs =>
        simp only [hcs] at hy
        obtain ⟨s, hs, hy⟩ := R.bind_ok hy
        split at hy
        · rename_i hc
          cases hy
          obtain ⟨B', k, h1, _, h2⟩ := hr.blk b _ hcs nofun
          rw [hb0] at h1; cases h1
          obtain ⟨_, vs, e, fz, h3, h4, h5⟩ := h2
          have hvc := hv.cells
          have hsz : v.cells.size = s := by have := hvc.1; simp at this; omega
          have hvs : vs.size = cs.length := by have := h5.1; simpa using this
          have hrun := storeVar_run (P := P) hs hsz h3 (by omega) (fun o h1 h2 => h4 o (Nat.zero_le _) h2) (leaves_one hvc hc.2.2) (o := off)
          obtain ⟨m1, m2⟩ := hr.modify (w' := { w with heap := w.heap.setIfInBounds B (.cells (putL vs off v.cells.toList) e fz) }) hb0 hcs rfl rfl ⟨rfl, rfl, rfl⟩
            (fun cs1 e1 fz1 hb1 => by rw [h3] at hb1; cases hb1; exact ⟨_, rfl, putL_size ..⟩) (.var (setCells cs off y.cells))
          rw [view_set hcs]
          refine ⟨_, by simp [Instr.storeAt, Instr.sureAddr, hrun], m1, m2 ⟨rfl, putL vs off v.cells.toList, e, fz, ?_, by rw [putL_size]; exact h4, ?_⟩⟩
          · rw [Array.getElem?_setIfInBounds_self_of_lt (lt_of_get h3)]
          · exact putL_cr (h5.mono m1.sub m1.keeps) (hvc.mono m1.sub m1.keeps)
        · cases hy
      | _ => simp [hcs] at hy
  | @eptr b B i sz off o hb0 ho =>
    simp only [storeA] at hy
    cases hcs : h[b]? with
    | none => simp [hcs] at hy
    | some blk =>
      cases blk with
      | arr sz' l =>
        simp only [hcs] at hy
        cases hx : l[i]? with
        | none => simp [hx] at hy
        | some x =>
          simp only [hx] at hy
          obtain ⟨s, hs, hy⟩ := R.bind_ok hy
          split at hy
          · rename_i hc
            cases hy
            obtain ⟨rfl⟩ := hc.2.2.2
            obtain ⟨B', k, h1, _, h2⟩ := hr.blk b _ hcs nofun
            rw [hb0] at h1; cases h1
            obtain ⟨_, vs, e, fz, h3, h4, h5, h6⟩ := h2
            have hvc := hv.cells
            have hsz : v.cells.size = s := by have := hvc.1; simp at this; omega
            have hi := lt_of_getl hx
            have hxs := h6.1 x (List.mem_of_getElem? hx)
            have hle : i * sz + sz ≤ l.length * sz := by have := Nat.mul_le_mul_right sz (show i + 1 ≤ l.length from hi); rw [Nat.add_mul] at this; omega
            have hrun := storeVar_run (P := P) hs hsz h3 (by omega) (fun o h1 h2 => h4 o (Nat.zero_le _) h2) (leaves_one hvc hc.2.2.1) (o := o)
            have hin := setCells_in h6.1 hx hc.2.2.1 (by omega : off + y.cells.length ≤ x.cells.length)
            obtain ⟨m1, m2⟩ := hr.modify (w' := { w with heap := w.heap.setIfInBounds B (.cells (putL vs o v.cells.toList) e fz) }) hb0 hcs rfl rfl ⟨rfl, rfl, rfl⟩
              (fun cs1 e1 fz1 hb1 => by rw [h3] at hb1; cases hb1; exact ⟨_, rfl, putL_size ..⟩) (.arr sz (l.set i (mk (setCells x.cells off y.cells) x)))
            rw [view_set hcs]
            refine ⟨_, by simp [Instr.storeAt, Instr.sureAddr, hrun], m1, m2 ⟨rfl, putL vs o v.cells.toList, e, fz, ?_, by rw [putL_size]; exact h4, by rw [putL_size]; simpa using h5, fun z hz => ?_, ?_⟩⟩
            · rw [Array.getElem?_setIfInBounds_self_of_lt (lt_of_get h3)]
            · rcases mem_set hz with rfl | hz
              · rw [mk_cells hc.2.2.1 (by omega), setCells_length, hxs]
              · exact h6.1 z hz
            · rw [← hin, ho.symm, List.length_set]
              -- the row's head
              have h7 := h6.2.mono m1.sub m1.keeps (ρ' := ρ)
              have hvc' := hvc.mono m1.sub m1.keeps (ρ' := ρ)
              refine ⟨by rw [setCells_length, flat_length h6.1]; simp [putL_size]; omega, fun j u z hu hz => ?_⟩
              rw [setCells_get _ _ _ _ (by rw [flat_length h6.1]; omega)] at hz
              rw [List.getElem?_take] at hu
              split at hu
              · rename_i hj
                rw [List.drop_zero, Array.getElem?_toList, putL_get _ _ _ _ (by simp; omega)] at hu
                simp only [Array.length_toList, hsz] at hu
                rw [hc.1] at hz
                split at hz
                · rename_i hjj
                  rw [if_pos hjj] at hu
                  exact hvc'.2 _ u z hu hz
                · rename_i hjj
                  rw [if_neg hjj] at hu
                  exact h7.2 j u z (by rw [List.getElem?_take, if_pos hj, List.drop_zero, Array.getElem?_toList]; exact hu) hz
              · cases hu
          · cases hy
      | _ => simp [hcs] at hy
  | _ => cases hy
end
end Go.Proofs.YthfkkflogbibfaaGreatDoor.AM
