/- The abstract machine: append, copy, and maps that are written (2). -/
import Derived.Test.YthfkkflogbibfaaGreatDoorA12
namespace Go.Proofs.YthfkkflogbibfaaGreatDoor.AM
set_option linter.unusedSectionVars false
set_option linter.unusedVariables false
set_option linter.unusedSimpArgs false

section
variable {F : Area} {ρ : Rho} {w : World} {G : Nat → Option (List AV)} {A : Area} {g : View} {w' : World}

theorem HR.heap (hr : HR G A ρ w g) (hw : w'.heap = w.heap) (hst : SameS w w') : HR G A ρ w' g ∧ Ext (Own ρ g) ρ w (Own ρ g) ρ w' := by
  obtain ⟨h1, h2⟩ := hr.upd (ρ' := ρ) (w' := w') (g' := g) w.heap.size hst (fun b p hb => hb) (fun B hB hne => by rw [hw]) (fun cs e fz hb => by have := lt_of_get hb; omega) (fun h => by omega) (by rw [hw]; exact Nat.le_refl _) (fun B off h => .inl h) (fun b B k h => .inl h)
  exact ⟨h2 hr.dom (fun b blk hb => .inl ⟨hb, fun hal B k hB => Nat.ne_of_lt (hr.lt hB)⟩) hr.sep (fun b h => ⟨h, rfl⟩), h1⟩

theorem grows {P : Program} {st xt e : TypeId} {i : TypeInfo} {zv : Value} {base : Option Addr} {n c : Nat} {vx : Value} {ty : TypeId} {h : H} {x : AV} {new olds : List AV}
    (hr : HR G A ρ w (view h)) (hst : P.underlying st = some (.slice e)) (hi : P.info? e = some i) (hz : i.zero = some zv) (hzs : zv.cells.size = i.size) (hb : 0 < i.bytes)
    (hn : newsA P i.size xt x h = .ok new) (hvx : CR (Forb A ρ (view h)) ρ w vx x) (hroom : (n + new.length) * i.bytes ≤ 140000000000000) (hgrow : c < n + new.length)
    (hol : olds.length = n) (hos : ∀ y, y ∈ olds → y.cells.length = i.size) (hold : ∀ w1, w1.heap = w.heap → SameS w w1 → ∃ arr : Array Value, (Builtin.firstCells i.size n (.slice base n c)).run P w1 = .ok arr w1 ∧ CRs (Forb A ρ (view h)) ρ w arr.toList (flat olds)) :
    ∃ row cap w2, (Builtin.append_ #[st, xt] ty #[.slice base n c, vx]).run P w = .ok (.slice (some ⟨w.heap.size, 0, none⟩) (olds ++ new).length cap) w2 ∧ w2.heap = w.heap.push (.cells row e) ∧ SameS w w2 ∧
      Elems (Forb A ρ (view h)) ρ w row 0 i.size (olds ++ new) ∧ (olds ++ new).length ≤ cap ∧ cap * i.size ≤ row.size := by
  obtain ⟨⟨d, hd, hdi⟩, hlen, hns, _⟩ := newsA_run hn hr (fun _ _ => rfl) hvx
  have hw1 : ({ w with drawn := w.drawn + 1 } : World).heap = w.heap := rfl
  obtain ⟨hr1, hx1⟩ := hr.heap hw1 ⟨rfl, rfl, rfl⟩
  obtain ⟨_, _, _, hf⟩ := newsA_run hn hr1 (fun _ _ => rfl) (hvx.ext hx1)
  obtain ⟨arr, ha1, ha2⟩ := hf new.length (Nat.le_refl _)
  rw [List.take_length] at ha2
  obtain ⟨old, ho1, ho2⟩ := hold _ hw1 ⟨rfl, rfl, rfl⟩
  obtain ⟨cap, rest, hc1, hc2, hrun⟩ := append_grows (ty := ty) hst hi hd hdi hlen hz hzs hb hroom hgrow rfl ho1 ha1
  have ha2' : CRs (Forb A ρ (view h)) ρ w arr.toList (flat new) := by
    have hx2 := (hr1.heap (w' := w) rfl ⟨rfl, rfl, rfl⟩).2
    exact ha2.ext hx2
  have hall : ∀ y, y ∈ olds ++ new → y.cells.length = i.size := fun y hy => by
    rcases List.mem_append.1 hy with h | h
    · exact hos y h
    · exact hns y h
  have hbase : CRs (Forb A ρ (view h)) ρ w (old ++ arr).toList (flat (olds ++ new)) := by
    rw [flat_append, Array.toList_append]; exact ho2.append ha2'
  have hsz : (old ++ arr).size = (olds ++ new).length * i.size := by
    have := hbase.1
    rw [flat_length hall] at this
    simpa using this
  refine ⟨old ++ arr ++ rest, cap, { w with drawn := w.drawn + 1, heap := w.heap.push (.cells (old ++ arr ++ rest) e) }, ?_, rfl, ⟨rfl, rfl, rfl⟩, ⟨hall, ?_⟩, by simpa [hol] using hc1, ?_⟩
  · rw [hrun, List.length_append, hol]
  · rw [List.drop_zero, Array.toList_append, List.take_append_of_le_length (by simpa using Nat.le_of_eq hsz.symm), List.take_of_length_le (by simpa using Nat.le_of_eq hsz)]
    exact hbase
  · have h1 : (n + new.length) * i.size + (cap - (n + new.length)) * i.size = cap * i.size := by rw [← Nat.add_mul]; congr 1; omega
    rw [Array.size_append, hsz, hc2, List.length_append, hol]; omega

theorem isEmpty_nil {l : List AV} (h : l.isEmpty = true) : l = [] := by cases l <;> simp_all
theorem isEmpty_pos {l : List AV} (h : ¬ l.isEmpty = true) : 0 < l.length := by cases l <;> simp_all

theorem own_lst {h : H} {t B k : Nat} (hr : HR G A ρ w (view h)) (ht : h[t]? = some .tail) (hρ : ρ t = some (B, k)) : ∃ cs e fz, w.heap[B]? = some (.cells cs e fz) ∧ Thawed fz k cs.size := by
  obtain ⟨B', k', h1, _, h2⟩ := hr.blk t _ ht nofun
  rw [hρ] at h1; cases h1; exact h2

theorem crs_putL {cs : Array Value} {o sz m : Nat} {old new : List AV} {arr : Array Value} (he : Elems F ρ w cs o sz old) (hs : ∀ y, y ∈ new → y.cells.length = sz) (ha : CRs F ρ w arr.toList (flat new)) (hm : (old ++ new).length * sz + o ≤ cs.size) :
    Elems F ρ w (putL cs (o + old.length * sz) arr.toList) o sz (old ++ new) := by
  have harr : arr.toList.length = new.length * sz := by rw [ha.1, flat_length hs]
  have hml : (old ++ new).length * sz = old.length * sz + new.length * sz := by rw [List.length_append, Nat.add_mul]
  refine ⟨fun y hy => ?_, ?_⟩
  · rcases List.mem_append.1 hy with h | h
    · exact he.1 y h
    · exact hs y h
  · refine ⟨by simp only [List.length_append, List.length_take, List.length_drop, Array.length_toList, putL_size, flat_length he.1, flat_length hs, flat_append] at hml hm ⊢; omega, fun j u z hu hz => ?_⟩
    rw [List.getElem?_take] at hu
    split at hu
    · rename_i hj
      rw [List.getElem?_drop, Array.getElem?_toList, putL_get _ _ _ _ (by omega)] at hu
      rw [flat_append] at hz
      by_cases h1 : j < old.length * sz
      · rw [if_neg (by omega)] at hu
        rw [List.getElem?_append_left (by rw [flat_length he.1]; exact h1)] at hz
        exact he.2.2 j u z (by rw [List.getElem?_take, if_pos h1, List.getElem?_drop, Array.getElem?_toList]; exact hu) hz
      · rw [if_pos (by omega)] at hu
        rw [List.getElem?_append_right (by rw [flat_length he.1]; omega), flat_length he.1] at hz
        exact ha.2 _ u z (by rw [show o + j - (o + old.length * sz) = j - old.length * sz by omega] at hu; exact hu) hz
    · cases hu

variable {E : Env}

theorem appendA_run {f : FuncId} {dst : Option Nat} {st xt : TypeId} {s x y : AV} {h h' : H} (ha : appendA E f dst st xt s x h = .ok (y, h')) (hr : HR E.G A ρ w (view h)) {vs vx : Value} (hs : CR (Forb A ρ (view h)) ρ w vs s) (hx : CR (Forb A ρ (view h)) ρ w vx x) (ty : TypeId) :
    ∃ v w' ρ', (Builtin.append_ #[st, xt] ty #[vs, vx]).run E.P w = .ok v w' ∧ Ext (Own ρ (view h)) ρ w (Own ρ' (view h')) ρ' w' ∧ HR E.G A ρ' w' (view h') ∧ CR (Forb A ρ' (view h')) ρ' w' v y := by
  obtain ⟨d, hd, ha⟩ := R.bind_ok ha
  have hst := under_ok hd
  clear hd
  split at ha
  case h_2 => cases ha
  rename_i e
  obtain ⟨i, hi, ha1⟩ := R.bind_ok ha
  clear ha
  obtain ⟨z, hz, ha2⟩ := R.bind_ok ha1
  clear ha1
  obtain ⟨new, hnew, ha1⟩ := R.bind_ok ha2
  clear ha2
  obtain ⟨n, hn, ha⟩ := R.bind_ok ha1
  clear ha1
  by_cases hcond : szA s i.size = true ∧ (n + new.length) * i.bytes ≤ 140000000000000 ∧ n + new.length ≤ 140000000000000 ∧ 0 < i.bytes ∧ z.cells.length = i.size ∧ (new.all fun y => y.cells.all AV.leaf) = true
  case neg => rw [if_neg hcond] at ha; cases ha
  rw [if_pos hcond] at ha
  obtain ⟨i', zv, hi', hzv, hzo⟩ := zero_info hz
  rw [info_ok hi] at hi'
  cases hi'
  have hii := info_ok hi
  have hzs : zv.cells.size = i.size := by
    have := (ofV_cr (F := Forb A ρ (view h)) (ρ := ρ) (w := w) hzo).cells.1
    simp at this; omega
  obtain ⟨hsz0, hroom, _, hbytes, _, hleaf⟩ := hcond
  have hnl : (flat new).all AV.leaf = true := by
    rw [List.all_eq_true] at hleaf ⊢
    intro y hy
    obtain ⟨x, hx, hyx⟩ := List.mem_flatMap.1 hy
    exact List.all_eq_true.1 (hleaf x hx) y hyx
  obtain ⟨⟨dx, hdx, hdi⟩, hlen, hns, hfirst⟩ := newsA_run hnew hr (fun _ _ => rfl) hx
  have hid := view_length h
  have G1 := fun (base : Option Addr) (c : Nat) (olds : List AV) => grows (base := base) (c := c) (n := n) (ty := ty) (olds := olds) hr hst hii hzv hzs hbytes hnew hx hroom
  cases hs with
  | nils =>
    cases hn
    simp only at ha
    split at ha
    · rename_i he
      have := isEmpty_nil he
      subst this
      cases ha
      obtain ⟨arr, h1, h2⟩ := hfirst 0 (Nat.le_refl _)
      refine ⟨_, w, ρ, ?_, Ext.refl _ _ _, hr, .nils⟩
      rw [append_fits (m := 0) hst hii hdx hdi hlen h1 (Nat.le_refl _)]; rfl
    · rename_i he
      cases ha
      have hpos := isEmpty_pos he
      obtain ⟨row, cap, w2, h1, h2, hs2, h3, h4, h5⟩ := G1 none 0 [] (by omega) rfl (fun y hy => by simp at hy) (fun w1 _ _ => ⟨#[], rfl, by simp [flat]; exact .nil⟩)
      obtain ⟨k, q1, q2, q3⟩ := newSl_ok E f dst hr (hr.dom _ hid) h2 hs2 (thawed0 _) h3 h4 h5
      rw [List.nil_append] at q1 q2 q3 h1
      rw [view_append]
      exact ⟨_, w2, _, h1, q1, q2, q3⟩
  | @lst0 base sz tl ht =>
    cases hn
    cases tl with
    | open_ => cases ha
    | own t => exact absurd rfl (ht t)
    | clip =>
      simp only at ha
      split at ha
      · rename_i he
        have := isEmpty_nil he
        subst this
        cases ha
        obtain ⟨arr, h1, h2⟩ := hfirst 0 (Nat.le_refl _)
        have harr : arr.toList = [] := by have := h2.1; simp [flat] at this; simpa using this
        refine ⟨.slice base 0 0, w, ρ, ?_, Ext.refl _ _ _, hr, .lst0 ht⟩
        rw [append_fits (m := 0) hst hii hdx hdi hlen h1 (Nat.le_refl _)]
        cases base <;> simp [harr, storeCells]
      · rename_i he
        cases ha
        have hpos := isEmpty_pos he
        have hss : sz = i.size := by simpa [szA] using hsz0
        subst hss
        obtain ⟨row, cap, w2, h1, h2, hs2, h3, h4, h5⟩ := G1 base 0 [] (by simpa using hpos) rfl (fun y hy => by simp at hy) (fun w1 _ _ => ⟨#[], by cases base <;> simp [Builtin.firstCells, loadCells, loadCellsFrom], by simp [flat]; exact .nil⟩)
        obtain ⟨k, q1, q2, q3⟩ := newSl_ok E f dst hr (hr.dom _ hid) h2 hs2 (thawed0 _) h3 h4 h5
        rw [view_append]
        exact ⟨_, w2, _, h1, q1, q2, q3⟩
  | @lst B o n' c sz cs e' fz l tl hb hn' hsz hF us g1 g2 hl hr' hc ht =>
    have hcr : CR (Forb A ρ (view h)) ρ w (.slice (some ⟨B, o, none⟩) n' c) (.lst sz l tl) := .lst hb hn' hsz hF us g1 g2 hl hr' hc ht
    obtain ⟨B', o', c', cs', e'', fz', heq, hb', _, hel, _⟩ := CR.lst_parts hb hn' hsz hF us g1 g2 hl hr' hc ht
    cases heq
    rw [hb] at hb'; cases hb'
    cases hn
    have hss : sz = i.size := by simpa [szA] using hsz0
    subst hss
    have hold : ∀ w1, w1.heap = w.heap → SameS w w1 → ∃ arr : Array Value, (Builtin.firstCells i.size l.length (.slice (some ⟨B, o, none⟩) l.length c)).run E.P w1 = .ok arr w1 ∧ CRs (Forb A ρ (view h)) ρ w arr.toList (flat l) := by
      intro w1 hw1 hs1
      obtain ⟨hr1, hx1⟩ := hr.heap hw1 hs1
      obtain ⟨_, _, hf⟩ := firstCells_run (P := E.P) (h := h) (x := .lst i.size l tl) rfl hr1 (fun _ _ => rfl) (hcr.ext hx1) (s := i.size) (by simp [szA])
      obtain ⟨arr, f1, f2⟩ := hf l.length (Nat.le_refl _)
      rw [List.take_length] at f2
      exact ⟨arr, f1, f2.ext ((hr1.heap (w' := w) hw1.symm ⟨hs1.1.symm, hs1.2.1.symm, hs1.2.2.symm⟩).2)⟩
    cases tl with
    | open_ => cases ha
    | clip =>
      have hcl := hc rfl
      subst hcl
      simp only at ha
      split at ha
      · rename_i he
        have := isEmpty_nil he
        subst this
        cases ha
        obtain ⟨arr, h1, h2⟩ := hfirst 0 (Nat.le_refl _)
        have harr : arr.toList = [] := by have := h2.1; simp [flat] at this; simpa using this
        refine ⟨_, w, ρ, ?_, Ext.refl _ _ _, hr, hcr⟩
        rw [append_fits (m := 0) hst hii hdx hdi hlen h1 (by simp)]
        simp [harr, storeCells]
      · rename_i he
        cases ha
        have hpos := isEmpty_pos he
        obtain ⟨row, cap, w2, h1, h2, hs2, h3, h4, h5⟩ := G1 _ _ l (by omega) rfl hsz hold
        obtain ⟨k, q1, q2, q3⟩ := newSl_ok E f dst hr (hr.dom _ hid) h2 hs2 (thawed0 _) h3 h4 h5
        rw [view_append]
        exact ⟨_, w2, _, h1, q1, q2, q3⟩
    | own t =>
      simp only at ha
      cases htt : h[t]? with
      | none => simp [htt] at ha
      | some tb =>
        cases tb with
        | tail =>
          simp only [htt, R.ok.injEq, Prod.mk.injEq] at ha
          obtain ⟨rfl, rfl⟩ := ha
          have htv : view h t = some .tail := htt
          obtain ⟨B1, k1, hρt, _, cs1, e1, fz1, hb1, hth1⟩ := hr.blk t _ htv nofun
          have hview : view (h.set t .dead ++ [.tail]) = setG (setG (view h) t .dead) h.length .tail := by
            rw [view_append, view_set htt, List.length_set]
          rw [hview]
          by_cases hfit : l.length + new.length ≤ c
          · obtain ⟨arr, h1, h2⟩ := hfirst new.length (Nat.le_refl _)
            rw [List.take_length] at h2
            have hrun := append_fits (ty := ty) (base := some ⟨B, o, none⟩) (n := l.length) hst hii hdx hdi hlen h1 hfit
            rcases Nat.eq_zero_or_pos new.length with h0 | h0
            · obtain rfl := List.eq_nil_of_length_eq_zero h0
              have harr : arr.toList = [] := by have := h2.1; simp [flat] at this; simpa using this
              obtain ⟨m1, m2⟩ := hr.onto (w' := w) hρt htv rfl hid (Nat.le_refl k1) hb1 (set_same hb1).symm (SameS.refl w) rfl (fun _ _ => rfl) .tail
              refine ⟨.slice (some ⟨B, o, none⟩) l.length c, w, _, ?_, m1, m2 ⟨cs1, e1, fz1, hb1, hth1⟩, ?_⟩
              · rw [hrun]; simp [harr, storeCells]
              · rw [List.append_nil]
                obtain ⟨B2, o2, c2, cs2, e2, fz2, heq2, hb2, hF2, hel2, hl2, hr2, hc2, ht2⟩ := (hcr.ext m1).lst_inv (.inr ⟨_, rfl⟩)
                cases heq2
                refine .lst_of hb2 hF2 hel2 hl2 hr2 (fun h => by cases h) (fun t' ht' hlt => ?_)
                cases ht'
                have := ht t rfl hlt
                rw [hρt] at this
                simp [setR, this]
            · have hρ2 := ht t rfl (by omega)
              rw [hρt] at hρ2
              cases hρ2
              rw [hb] at hb1; cases hb1
              have hroom2 : o + (l ++ new).length * i.size ≤ cs.size := by
                have := Nat.mul_le_mul_right i.size hfit
                rw [List.length_append]; omega
              have harr : arr.toList.length = new.length * i.size := by rw [h2.1, flat_length hns]
              have hml : (l ++ new).length * i.size = l.length * i.size + new.length * i.size := by rw [List.length_append, Nat.add_mul]
              have hone : ∀ v ∈ arr.toList, v.oneCell' = true := leaves_one h2 hnl
              have hstore := storeCells_run (P := E.P) (B := B) (o := o + l.length * i.size) arr.toList 0 cs w hb (by omega) hth1 hone
              rw [Nat.add_zero] at hstore
              obtain ⟨m1, m2⟩ := hr.onto (w' := { w with heap := w.heap.setIfInBounds B (.cells (putL cs (o + l.length * i.size) arr.toList) e' fz) }) (k := o + (l ++ new).length * i.size) hρt htv rfl hid (by omega) hb rfl ⟨rfl, rfl, rfl⟩ (putL_size ..)
                (fun off hoff => by rw [putL_get _ _ _ _ (by omega), if_neg (by omega)]) .tail
              have hB : ({ w with heap := w.heap.setIfInBounds B (.cells (putL cs (o + l.length * i.size) arr.toList) e' fz) } : World).heap[B]? = some (.cells (putL cs (o + l.length * i.size) arr.toList) e' fz) := Array.getElem?_setIfInBounds_self_of_lt (lt_of_get hb)
              refine ⟨.slice (some ⟨B, o, none⟩) (l.length + new.length) c, _, _, ?_, m1, m2 ⟨_, _, _, hB, fun off p1 p2 => hth1 off (by omega) (by rw [putL_size] at p2; exact p2)⟩, ?_⟩
              · rw [hrun]
                simp only [add0, hstore, Result.andThen_ok]
              · rw [← List.length_append]
                refine .lst_of hB (fun j hj => ?_) ?_ (by rw [List.length_append]; exact hfit) (by rw [putL_size]; exact hr') (fun h => by cases h) (fun t' ht' hlt => by cases ht'; simp [setR])
                · rintro (⟨b, k, yb, hb', hyb, hal, hk⟩ | hA)
                  · simp only [setR, setG] at hb' hyb
                    by_cases e1 : b = h.length
                    · rw [if_pos e1] at hb'; cases hb'; omega
                    · rw [if_neg e1] at hb' hyb
                      split at hyb
                      · cases hyb; cases hal
                      · rename_i hbt
                        exact hbt (hr.sep b t B k _ yb .tail hb' hρt hyb htv hal rfl)
                  · by_cases hjl : j < l.length * i.size
                    · exact hF j hjl (.inr hA)
                    · exact (hr.avo _ _ hA).2 ⟨t, _, .tail, hρt, htv, rfl, by omega⟩
                · exact crs_putL (m := 0) (hel.mono m1.sub m1.keeps) hns (h2.ext m1) (by omega)
          · obtain ⟨row, cap, w2, h1, h2, hs2, h3, h4, h5⟩ := G1 (some ⟨B, o, none⟩) c l (by omega) rfl hsz hold
            obtain ⟨x1, hrk⟩ := hr.kill htv
            have hidk : setG (view h) t .dead h.length = none := by
              have : h.length ≠ t := fun e => by rw [← e] at htt; simp at htt
              simp [setG, this, hid]
            obtain ⟨m1, m2⟩ := hrk.alloc (w' := w2) (hrk.dom _ hidk) h2 hs2 ((l ++ new).length * i.size) .tail
            have hb2 : w2.heap[w.heap.size]? = some (.cells row e (0, 0)) := by rw [h2]; simp
            refine ⟨_, w2, _, h1, x1.trans m1, m2 ⟨row, e, (0, 0), hb2, fun off p1 p2 => thawed0 _ off (Nat.zero_le _) p2⟩, ?_⟩
            refine .lst_of hb2 (fun j hj => ?_) ((h3.mono x1.sub x1.keeps).mono m1.sub m1.keeps) h4 (by rw [Nat.zero_add]; exact h5) (fun h => by cases h) (fun t' ht' hlt => by cases ht'; simp [setR])
            rintro (⟨b, k, yb, hb', hyb, hal, hk⟩ | hA)
            · simp only [setR] at hb'
              split at hb'
              · cases hb'; omega
              · have := hr.lt hb'; omega
            · have := (hr.avo _ _ hA).1; omega
        | _ => simp [htt] at ha
  | @sl b B o off len sz c clip cs e' fz hb0 hb hr' hl hc ho =>
    have hcr : CR (Forb A ρ (view h)) ρ w (.slice (some ⟨B, o, none⟩) len c) (.sl b off len sz clip) := .sl hb0 hb hr' hl hc ho
    cases hn
    have hss : sz = i.size := by simpa [szA] using hsz0
    subst hss
    simp only at ha
    obtain ⟨old, hold0, ha1⟩ := R.bind_ok ha
    clear ha
    obtain ⟨hos, ⟨b', c', heq, hlc⟩, hf0⟩ := firstCells_run (P := E.P) hold0 hr (fun _ _ => rfl) hcr (s := i.size) (by simp [szA])
    have holen : old.length = n := by cases heq; rfl
    have hold : ∀ w1, w1.heap = w.heap → SameS w w1 → ∃ arr : Array Value, (Builtin.firstCells i.size n (.slice (some ⟨B, o, none⟩) n c)).run E.P w1 = .ok arr w1 ∧ CRs (Forb A ρ (view h)) ρ w arr.toList (flat old) := by
      intro w1 hw1 hs1
      obtain ⟨hr1, hx1⟩ := hr.heap hw1 hs1
      obtain ⟨_, _, hf⟩ := firstCells_run (P := E.P) hold0 hr1 (fun _ _ => rfl) (hcr.ext hx1) (s := i.size) (by simp [szA])
      obtain ⟨arr, f1, f2⟩ := hf n (by omega)
      rw [List.take_of_length_le (by omega)] at f2
      exact ⟨arr, f1, f2.ext ((hr1.heap (w' := w) hw1.symm ⟨hs1.1.symm, hs1.2.1.symm, hs1.2.2.symm⟩).2)⟩
    split at ha1
    · rename_i hclip
      have hcl := hc hclip
      split at ha1
      · rename_i he
        have := isEmpty_nil he
        subst this
        cases ha1
        obtain ⟨arr, h1, h2⟩ := hfirst 0 (Nat.le_refl _)
        have harr : arr.toList = [] := by have := h2.1; simp [flat] at this; simpa using this
        refine ⟨_, w, ρ, ?_, Ext.refl _ _ _, hr, hcr⟩
        rw [append_fits (m := 0) hst hii hdx hdi hlen h1 (by simpa using hl)]
        simp [harr, storeCells]
      · rename_i he
        cases ha1
        have hpos := isEmpty_pos he
        obtain ⟨row, cap, w2, h1, h2, hs2, h3, h4, h5⟩ := G1 (some ⟨B, o, none⟩) c old (by omega) holen hos hold
        obtain ⟨k, q1, q2, q3⟩ := newSl_ok E f dst hr (hr.dom _ hid) h2 hs2 (thawed0 _) h3 h4 h5
        rw [view_append]
        exact ⟨_, w2, _, h1, q1, q2, q3⟩
    · split at ha1
      · rename_i hoff
        subst hoff
        cases ha1
        obtain ⟨xb, hxb⟩ : ∃ xb, view h b = some xb := by
          cases hvb : view h b with
          | none => rw [hr.dom b hvb] at hb0; cases hb0
          | some xb => exact ⟨xb, rfl⟩
        obtain ⟨sz', ls, hls⟩ : ∃ sz' ls, h[b]? = some (.arr sz' ls) := by
          simp only [elemsA] at hold0
          cases hvb : h[b]? with
          | none => simp [hvb] at hold0
          | some q => cases q <;> simp [hvb] at hold0; exact ⟨_, _, rfl⟩
        have hbv : view h b = some (.arr sz' ls) := hls
        obtain ⟨B1, k1, hρt, _, hk1, cs1, e1, fz1, hb1, hth1, _, hel1⟩ := hr.blk b _ hbv nofun
        rw [hb0] at hρt; cases hρt
        rw [hb] at hb1; cases hb1
        obtain ⟨hls2, hszz⟩ : old = (ls.drop 0).take n ∧ i.size = sz' := by
          simp only [elemsA, hls] at hold0
          split at hold0
          · rename_i hcc; cases hold0; exact ⟨rfl, hcc.2⟩
          · cases hold0
        subst hszz
        have hel : Elems (Forb A ρ (view h)) ρ w cs 0 i.size old := by
          have := hel1.cut 0 n
          rw [hls2]; simpa using this
        have hview : view (h.set b .dead ++ [.arr i.size (old ++ new)]) = setG (setG (view h) b .dead) h.length (.arr i.size (old ++ new)) := by
          rw [view_append, view_set hls, List.length_set]
        rw [hview]
        have hml : (old ++ new).length * i.size = old.length * i.size + new.length * i.size := by rw [List.length_append, Nat.add_mul]
        by_cases hfit : n + new.length ≤ c
        · obtain ⟨arr, h1, h2⟩ := hfirst new.length (Nat.le_refl _)
          rw [List.take_length] at h2
          have hrun := append_fits (ty := ty) (base := some ⟨B, o, none⟩) (n := n) hst hii hdx hdi hlen h1 hfit
          have harr : arr.toList.length = new.length * i.size := by rw [h2.1, flat_length hns]
          have hroom2 : (old ++ new).length * i.size ≤ cs.size := by
            have := Nat.mul_le_mul_right i.size hfit
            rw [List.length_append, holen]
            simp at hr'; omega
          rcases Nat.eq_zero_or_pos new.length with h0 | h0
          · obtain rfl := List.eq_nil_of_length_eq_zero h0
            have harr0 : arr.toList = [] := by simpa using harr
            obtain ⟨m1, m2⟩ := hr.onto (w' := w) hb0 hbv rfl hid (Nat.le_refl 0) hb (set_same hb).symm (SameS.refl w) rfl (fun _ _ => rfl) (.arr i.size (old ++ []))
            refine ⟨.slice (some ⟨B, o, none⟩) n c, w, _, ?_, m1, m2 ⟨rfl, cs, e', fz, hb, hth1, by omega, by have := hel.mono (F' := Forb A (setR ρ h.length (B, 0)) (setG (setG (view h) b .dead) h.length (.arr i.size (old ++ [])))) m1.sub m1.keeps; rw [List.append_nil] at this ⊢; exact this⟩, ?_⟩
            · rw [hrun]; simp [harr0, storeCells]
            · rw [List.append_nil, holen]
              exact .sl (by simp [setR]) hb hr' hl (fun h => by cases h) ho
          · have ho0 : o = 0 := by rcases ho with h' | h'; · omega
                                   · simpa using h'
            subst ho0
            have hone : ∀ v ∈ arr.toList, v.oneCell' = true := leaves_one h2 hnl
            have hstore := storeCells_run (P := E.P) (B := B) (o := 0 + n * i.size) arr.toList 0 cs w hb (by rw [holen] at hml; omega) (fun off p1 p2 => hth1 off (Nat.zero_le _) p2) hone
            rw [Nat.add_zero] at hstore
            obtain ⟨m1, m2⟩ := hr.onto (w' := { w with heap := w.heap.setIfInBounds B (.cells (putL cs (0 + n * i.size) arr.toList) e' fz) }) (k := 0) hb0 hbv rfl hid (Nat.le_refl 0) hb rfl ⟨rfl, rfl, rfl⟩ (putL_size ..)
              (fun off hoff => by omega) (.arr i.size (old ++ new))
            have hB : ({ w with heap := w.heap.setIfInBounds B (.cells (putL cs (0 + n * i.size) arr.toList) e' fz) } : World).heap[B]? = some (.cells (putL cs (0 + n * i.size) arr.toList) e' fz) := Array.getElem?_setIfInBounds_self_of_lt (lt_of_get hb)
            refine ⟨.slice (some ⟨B, 0, none⟩) (n + new.length) c, _, _, ?_, m1, m2 ⟨rfl, _, _, _, hB, by rw [putL_size]; exact hth1, by rw [putL_size]; exact hroom2, ?_⟩, ?_⟩
            · rw [hrun]
              simp only [add0, hstore, Result.andThen_ok]
            · have := crs_putL (m := 0) (hel.mono m1.sub m1.keeps) hns (h2.ext m1) (by omega)
              rw [holen] at this; exact this
            · have hsum : (old ++ new).length = n + new.length := by rw [List.length_append, holen]
              rw [hsum]
              exact .sl (by simp [setR]) hB (by rw [putL_size]; exact hr') hfit (fun h => by cases h) (.inr (by simp))
        · obtain ⟨row, cap, w2, h1, h2, hs2, h3, h4, h5⟩ := G1 (some ⟨B, o, none⟩) c old (by omega) holen hos hold
          obtain ⟨x1, hrk⟩ := hr.kill hbv
          have hidk : setG (view h) b .dead h.length = none := by
            have : h.length ≠ b := fun e => by rw [← e] at hls; simp at hls
            simp [setG, this, hid]
          obtain ⟨m1, m2⟩ := hrk.alloc (w' := w2) (hrk.dom _ hidk) h2 hs2 0 (.arr i.size (old ++ new))
          have hb2 : w2.heap[w.heap.size]? = some (.cells row e (0, 0)) := by rw [h2]; simp
          have h45 := Nat.mul_le_mul_right i.size h4
          refine ⟨_, w2, _, h1, x1.trans m1, m2 ⟨rfl, row, e, (0, 0), hb2, thawed0 _, by omega, (h3.mono x1.sub x1.keeps).mono m1.sub m1.keeps⟩, ?_⟩
          exact .sl (by simp [setR]) hb2 (by rw [Nat.zero_add]; exact h5) h4 (fun h => by cases h) (.inr (by simp))
      · cases ha1
  | vsl hb0 hl hc ho => cases ha
  | _ => cases hn
end
end Go.Proofs.YthfkkflogbibfaaGreatDoor.AM
