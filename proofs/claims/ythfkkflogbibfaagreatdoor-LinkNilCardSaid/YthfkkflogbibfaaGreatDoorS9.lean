/- What a reader finds in memory, as trees: whole numbers, truths, texts, structs, slices, to any depth. -/
import Derived.Test.YthfkkflogbibfaaGreatDoorS8
import Derived.ChangeArms
import Derived.SizedLaws
import GoSem.ClaimJoined
namespace Go.Proofs.YthfkkflogbibfaaGreatDoor.AM
open Go.RowKit
set_option linter.unusedVariables false
set_option linter.unusedSimpArgs false
set_option linter.unusedSectionVars false

def aggB' (P : Program) (t : TypeId) : Bool := match P.underlying t with
  | some (.struct _) | some (.array _ _) => true
  | _ => false
/-- an element out of its cells. -/
def rowAV (P : Program) (e : TypeId) (x : List AV) : AV := match aggB' P e with
  | true => .agg x
  | false => x.headD undef
/-- a row of cells of a type, as a reader finds it. -/
def Shp (P : Program) : Nat → TypeId → List AV → Prop
  | 0, _, _ => False
  | n + 1, t, l => match P.underlying t with
    | some .bool => ∃ b, l = [.bool b]
    | some (.int k) => ∃ m, l = [.int k m] ∧ (Lit.int k m).wf = true
    | some .string => ∃ s, l = [.str s] ∧ s.size ≤ 140737488351232
    | some (.slice e) => ∃ xs : List (List AV), l = [.lst (P.cellsOf e) (xs.map (rowAV P e)) .open_] ∧ xs.length * P.bytesOf e ≤ 140737488351232 ∧ ∀ x, x ∈ xs → Shp P n e x
    | some (.struct fs) => l.length = P.cellsOf t ∧ ∀ f, f ∈ fs.toList → Shp P n f.type ((l.drop f.offset).take (P.cellsOf f.type))
    | _ => False
def tiles (P : Program) : List Field → Nat → Option Nat
  | [], off => some off
  | f :: fs, off => match f.offset == off with
    | true => tiles P fs (off + P.cellsOf f.type)
    | false => none
/-- can a type be read so? -/
def okT (P : Program) : Nat → TypeId → Bool
  | 0, _ => false
  | n + 1, t => match P.underlying t with
    | some .bool | some (.int _) | some .string => P.cellsOf t == 1
    | some (.slice e) => P.cellsOf t == 1 && okT P n e && decide (0 < P.cellsOf e)
    | some (.struct fs) => fs.toList.all (fun f => okT P n f.type) && tiles P fs.toList 0 == some (P.cellsOf t)
    | _ => false

theorem list_choose {α : Type} {Q : Nat → α → Prop} : ∀ n : Nat, (∀ i, i < n → ∃ y, Q i y) → ∃ xs : List α, xs.length = n ∧ ∀ i p, xs[i]? = some p → Q i p
  | 0, _ => ⟨[], rfl, fun i p h => by simp at h⟩
  | n + 1, h => by
    obtain ⟨xs, hl, hx⟩ := list_choose n (fun i hi => h i (by omega))
    obtain ⟨y, hy⟩ := h n (by omega)
    refine ⟨xs ++ [y], by simp [hl], fun i p hp => ?_⟩
    rcases Nat.lt_or_ge i xs.length with hi | hi
    · rw [List.getElem?_append_left hi] at hp; exact hx i p hp
    · have : i = xs.length := by
        have := (List.getElem?_eq_some_iff.1 hp).1
        simp at this; omega
      subst this
      simp at hp
      subst hp
      rw [hl]; exact hy
theorem cells_get {w : World} {base : Nat} {a : Addr} {n : Nat} {cs : List Value} (h : w.cells? base a n = some cs) : cs.length = n ∧ ∀ i u, cs[i]? = some u → w.cell? (a.add i) = some u := by
  obtain ⟨_, hl, hi⟩ := World.cells?_some h
  refine ⟨hl, fun i u hu => ?_⟩
  have := (List.getElem?_eq_some_iff.1 hu).1
  rw [hi i (by omega)]
  exact hu
theorem weights_elem {P : Program} {H : Type} {e : TypeId} {elems : List (DataW H)} {i : Nat} {d : DataW H} (h : elems[i]? = some d) : ∀ n ∈ d.weights P e, n ∈ DataW.weightsAll P e elems := by
  induction elems generalizing i with
  | nil => simp at h
  | cons x xs ih =>
    intro n hn
    unfold DataW.weightsAll
    cases i with
    | zero => simp at h; subst h; exact List.mem_append_left _ hn
    | succ i => simp at h; exact List.mem_append_right _ (ih h n hn)

section
variable {H : Type} {enc : TypeId × Value → H} {P : Program} {w : World} {base : Nat} {held : Bool} {F : Area} {ρ : Rho}

theorem fields_ok {n : Nat} {cs : List Value} : ∀ (fs : List Field) (off tot : Nat), tiles P fs off = some tot → tot ≤ cs.length →
    (∀ f, f ∈ fs → ∃ row, CRs F ρ w ((cs.drop f.offset).take (P.cellsOf f.type)) row ∧ Shp P n f.type row ∧ row.length = P.cellsOf f.type) →
    off ≤ tot ∧ ∃ l, CRs F ρ w ((cs.drop off).take (tot - off)) l ∧ l.length = tot - off ∧ ∀ f, f ∈ fs → off ≤ f.offset ∧ Shp P n f.type ((l.drop (f.offset - off)).take (P.cellsOf f.type)) := by
  intro fs
  induction fs with
  | nil =>
    intro off tot ht hl _
    cases ht
    exact ⟨Nat.le_refl _, [], by simpa using CRs.nil, by simp, fun f h => by cases h⟩
  | cons f fs ih =>
    intro off tot ht hl hx
    simp only [tiles] at ht
    split at ht
    · rename_i hoff
      simp only [beq_iff_eq] at hoff
      obtain ⟨row, r1, r2, r3⟩ := hx f (List.mem_cons_self ..)
      obtain ⟨h1, l, h2, h3, h4⟩ := ih (off + P.cellsOf f.type) tot ht hl (fun g hg => hx g (List.mem_cons_of_mem _ hg))
      refine ⟨by omega, row ++ l, ?_, by simp [r3, h3]; omega, fun g hg => ?_⟩
      · rw [hoff] at r1
        have e1 : (cs.drop off).take (tot - off) = (cs.drop off).take (P.cellsOf f.type) ++ (cs.drop (off + P.cellsOf f.type)).take (tot - (off + P.cellsOf f.type)) := by
          have e2 : tot - off = P.cellsOf f.type + (tot - (off + P.cellsOf f.type)) := by omega
          rw [e2, List.take_add, List.drop_drop]
        rw [e1]; exact r1.append h2
      · rcases List.mem_cons.1 hg with rfl | hg
        · refine ⟨by omega, ?_⟩
          rw [hoff, Nat.sub_self, List.drop_zero, List.take_append_of_le_length (by omega), ← r3, List.take_length]
          exact r2
        · obtain ⟨g1, g2⟩ := h4 g hg
          refine ⟨by omega, ?_⟩
          have e3 : g.offset - off = row.length + (g.offset - (off + P.cellsOf f.type)) := by omega
          rw [e3, List.drop_append, List.drop_eq_nil_of_le (Nat.le_add_right ..), List.nil_append, Nat.add_sub_cancel_left]
          exact g2
    · cases ht

theorem rowAV_cells {e : TypeId} {x : List AV} {n : Nat} (hs : Shp P n e x) (hk : okT P n e = true) (hl : x.length = P.cellsOf e) : (rowAV P e x).cells = x := by
  unfold rowAV
  split
  · rfl
  · rename_i ha
    cases n with
    | zero => cases hk
    | succ n =>
      simp only [Shp] at hs
      unfold aggB' at ha
      cases hu : P.underlying e with
      | none => rw [hu] at hs; exact hs.elim
      | some d =>
        rw [hu] at hs ha
        cases d <;> simp only at hs ha
        all_goals first
          | exact hs.elim
          | (obtain ⟨b, rfl⟩ := hs; rfl)
          | (obtain ⟨b, rfl, _⟩ := hs; rfl)
          | cases ha

theorem open_ok (hF : ∀ B off, ¬ F B off) : ∀ (n : Nat) (t : TypeId), okT P n t = true → ∀ (m : Nat) (cs : List Value) (x : DataW H × List MemPlace), DataW.trod enc P w base (fun _ => true) held m t cs = some x → (∀ k ∈ x.1.weights P t, k ≤ reachBytes) →
    ∃ l, CRs F ρ w cs l ∧ Shp P n t l ∧ l.length = P.cellsOf t := by
  intro n
  induction n with
  | zero => intro t h; cases h
  | succ n ih =>
    intro t hk m cs x hx hw
    simp only [okT] at hk
    cases hu : P.underlying t with
    | none => rw [hu] at hk; cases hk
    | some d =>
      rw [hu] at hk
      simp only [Shp, hu]
      cases d with
      | bool =>
        obtain ⟨b, rfl, rfl⟩ := DataW.trod_bool hu hx
        simp only [beq_iff_eq] at hk
        exact ⟨[.bool b], .cons (.bool _) .nil, ⟨b, rfl⟩, hk.symm⟩
      | int k =>
        obtain ⟨q, rfl, rfl, hwf⟩ := DataW.trod_int hu hx
        simp only [beq_iff_eq] at hk
        exact ⟨[.int k q], .cons (.int _ _) .nil, ⟨q, rfl, hwf⟩, hk.symm⟩
      | string =>
        obtain ⟨s, rfl, rfl, _⟩ := DataW.trod_string hu hx
        simp only [beq_iff_eq] at hk
        refine ⟨[.str s], .cons (.str _) .nil, ⟨s, rfl, ?_⟩, hk.symm⟩
        have := hw s.data.toList.length (by simp [DataW.weights])
        rw [Array.length_toList] at this
        exact this
      | struct fs =>
        simp only [Bool.and_eq_true, List.all_eq_true, beq_iff_eq] at hk
        obtain ⟨xs, q, rfl, rfl, hlen, hxl, hi⟩ := DataW.trod_struct hu hx
        have hw' : ∀ k ∈ DataW.weightsEach P (fs.toList.map (·.type)) (xs.map (·.1)), k ≤ reachBytes := by
          intro k hkk
          refine hw k ?_
          simp only [DataW.weights]
          rw [hu]; exact hkk
        obtain ⟨_, l, h1, h2, h3⟩ := fields_ok (F := F) (ρ := ρ) (w := w) (n := n) (cs := cs) fs.toList 0 (P.cellsOf t) hk.2 (by omega) (fun f hf => by
          obtain ⟨i, hi', rfl⟩ := List.mem_iff_getElem.1 hf
          have hfi : fs[i]? = some fs.toList[i] := by simp at hi' ⊢
          have hxi := hi i _ hfi
          have hil : i < xs.length := by simp at hi'; omega
          rw [List.getElem?_eq_getElem hil] at hxi
          exact ih _ (hk.1 _ hf) q _ _ hxi (fun k hkk => hw' k (DataW.weights_mem_each (j := i) (by rw [List.getElem?_map, List.getElem?_eq_getElem hi']; rfl) (by rw [List.getElem?_map, List.getElem?_eq_getElem hil]; rfl) k hkk)))
        refine ⟨l, ?_, ⟨by simpa using h2, fun f hf => by simpa using (h3 f hf).2⟩, by simpa using h2⟩
        rw [List.drop_zero, Nat.sub_zero, ← hlen, List.take_length] at h1
        exact h1
      | slice e =>
        simp only [Bool.and_eq_true, beq_iff_eq, decide_eq_true_eq] at hk
        obtain ⟨⟨hc1, hke⟩, hpos⟩ := hk
        rcases DataW.trod_slice hu hx with ⟨rfl, rfl⟩ | ⟨a, len, cap, elems, rest, q, rfl, rfl, rfl, hba, hlc, hcm, hel, hi, hsp, _⟩
        · exact ⟨[.lst (P.cellsOf e) [] .open_], .cons (.lst0 nofun) .nil, ⟨[], rfl, by simp, fun x hx => by cases hx⟩, hc1.symm⟩
        · have hwt : ∀ k ∈ DataW.weights P t (DataW.slice (elems.map (·.1)) (rest.map (·.1))), k ≤ reachBytes := hw
          unfold DataW.weights at hwt
          rw [hu] at hwt
          simp only [List.mem_cons, List.mem_append] at hwt
          obtain ⟨hrl, hrest⟩ := hsp rfl
          have hlen : (elems.length + rest.length) * P.bytesOf e ≤ reachBytes := by
            have := hwt _ (.inl rfl)
            simpa using this
          have hadd : ∀ i j, (a.add (i * P.cellsOf e)).add j = a.add (i * P.cellsOf e + j) := fun i j => by
            unfold Addr.add
            by_cases h1 : i * P.cellsOf e = 0 <;> by_cases h2 : j = 0 <;> simp [h1, h2, Nat.add_assoc]
          have hex : ∀ i, i < len → ∃ row, (CRs F ρ w ((List.range (P.cellsOf e)).map fun j => (w.cell? (a.add (i * P.cellsOf e + j))).getD Go.undef) row ∧ (∀ j, j < P.cellsOf e → (w.cell? (a.add (i * P.cellsOf e + j))).isSome)) ∧ Shp P n e row ∧ row.length = P.cellsOf e := by
            intro i hil
            have h1 := hi i hil
            rw [List.getElem?_eq_getElem (show i < elems.length by omega)] at h1
            obtain ⟨c, hcs, ht⟩ := Option.bind_eq_some_iff.1 h1
            obtain ⟨row, r1, r2, r3⟩ := ih e hke q c _ ht (fun k hk' => hwt k (.inr (.inl (weights_elem (i := i) (by rw [List.getElem?_map, List.getElem?_eq_getElem (show i < elems.length by omega)]; rfl) k hk'))))
            obtain ⟨hl, hg⟩ := cells_get hcs
            have hcell : ∀ j, j < P.cellsOf e → w.cell? (a.add (i * P.cellsOf e + j)) = c[j]? := fun j hj => by
              have hjl : j < c.length := by omega
              have := hg j _ (List.getElem?_eq_getElem hjl)
              rw [hadd] at this
              rw [this, List.getElem?_eq_getElem hjl]
            refine ⟨row, ⟨?_, fun j hj => by rw [hcell j hj, List.getElem?_eq_getElem (by omega)]; rfl⟩, r2, r3⟩
            have : ((List.range (P.cellsOf e)).map fun j => (w.cell? (a.add (i * P.cellsOf e + j))).getD Go.undef) = c := by
              refine List.ext_getElem? fun j => ?_
              rw [List.getElem?_map]
              by_cases hj : j < P.cellsOf e
              · rw [List.getElem?_eq_getElem (show j < c.length by omega), List.getElem?_eq_getElem (show j < (List.range (P.cellsOf e)).length by simpa using hj)]
                simp only [Option.map_some, List.getElem_range]
                rw [hcell j hj, List.getElem?_eq_getElem (show j < c.length by omega)]; rfl
              · rw [List.getElem?_eq_none (show c.length ≤ j by omega), List.getElem?_eq_none (show (List.range (P.cellsOf e)).length ≤ j by simpa using hj)]; rfl
            rw [this]; exact r1
          obtain ⟨xs, hxl, hxs⟩ := list_choose len hex
          have hshp : ∀ x, x ∈ xs → Shp P n e x ∧ x.length = P.cellsOf e := fun x hx => by
            obtain ⟨i, hi', rfl⟩ := List.mem_iff_getElem.1 hx
            exact (hxs i _ (List.getElem?_eq_getElem hi')).2
          have hcells : ∀ x, x ∈ xs → (rowAV P e x).cells = x := fun x hx => rowAV_cells (hshp x hx).1 hke (hshp x hx).2
          refine ⟨[.lst (P.cellsOf e) (xs.map (rowAV P e)) .open_], .cons ?_ .nil, ⟨xs, rfl, ?_, fun x hx => (hshp x hx).1⟩, hc1.symm⟩
          · rcases Nat.eq_zero_or_pos cap with h0 | h0
            · subst h0
              obtain rfl : len = 0 := by omega
              obtain rfl := List.eq_nil_of_length_eq_zero hxl
              exact .lst0 nofun
            · -- all cells that there is room for
              have hsome : ∀ i, i < cap → ∀ j, j < P.cellsOf e → (w.cell? (a.add (i * P.cellsOf e + j))).isSome := by
                intro i hic j hj
                rcases Nat.lt_or_ge i len with hil | hil
                · have hxi : i < xs.length := by omega
                  exact (hxs i _ (List.getElem?_eq_getElem hxi)).1.2 j hj
                · have h1 := hrest (i - len) (by omega)
                  rw [List.getElem?_eq_getElem (show i - len < rest.length by omega), show len + (i - len) = i by omega] at h1
                  obtain ⟨c, hcs, _⟩ := Option.bind_eq_some_iff.1 h1
                  obtain ⟨hl, hg⟩ := cells_get hcs
                  have hjl : j < c.length := by omega
                  have := hg j _ (List.getElem?_eq_getElem hjl)
                  rw [hadd] at this
                  rw [this]; rfl
              have h00 := hsome 0 h0 0 hpos
              rw [Nat.zero_mul, Nat.add_zero] at h00
              have ha0 : a.add 0 = a := rfl
              rw [ha0] at h00
              unfold World.cell? at h00
              split at h00
              · rename_i arr et fz hb
                split at h00
                · cases h00
                · rename_i hspot
                  obtain ⟨B, o, sp⟩ := a
                  obtain rfl : sp = none := by simpa using hspot
                  have hcell : ∀ i, i < cap → ∀ j, j < P.cellsOf e → w.cell? ((⟨B, o, none⟩ : Addr).add (i * P.cellsOf e + j)) = arr[o + (i * P.cellsOf e + j)]? ∧ o + (i * P.cellsOf e + j) < arr.size := by
                    intro i hic j hj
                    have hs := hsome i hic j hj
                    rw [add0] at hs ⊢
                    simp only [World.cell?, hb] at hs ⊢
                    refine ⟨by simp, ?_⟩
                    simp only [Option.isSome_none, Bool.false_eq_true, if_false] at hs
                    exact lt_of_get (Option.eq_some_of_isSome hs)
                  refine .lst hb (by simp [hxl]) (fun y hy => ?_) (fun j _ => hF _ _) (fun i j => arr.getD (o + (i * P.cellsOf e + j)) Go.undef) (fun i y j z hy hz => ?_) (fun i y j z hy hz => ?_) (by simp [hxl]; exact hlc) ?_ nofun nofun
                  · obtain ⟨x, hx, rfl⟩ := List.mem_map.1 hy
                    rw [hcells x hx]; exact (hshp x hx).2
                  · have hy' : (xs[i]?).map (rowAV P e) = some y := by rw [← List.getElem?_map]; exact hy
                    obtain ⟨row, hxi, rfl⟩ := Option.map_eq_some_iff.1 hy'
                    have hmem := List.mem_of_getElem? hxi
                    rw [hcells row hmem] at hz
                    have hj : j < P.cellsOf e := by have := lt_of_getl hz; rw [(hshp row hmem).2] at this; exact this
                    have hil : i < len := by have := lt_of_getl hxi; omega
                    obtain ⟨hc1', hlt⟩ := hcell i (by omega) j hj
                    simp [Array.getD_eq_getD_getElem?, Array.getElem?_eq_getElem hlt]
                  · have hy' : (xs[i]?).map (rowAV P e) = some y := by rw [← List.getElem?_map]; exact hy
                    obtain ⟨row, hxi, rfl⟩ := Option.map_eq_some_iff.1 hy'
                    have hmem := List.mem_of_getElem? hxi
                    rw [hcells row hmem] at hz
                    have hj : j < P.cellsOf e := by have := lt_of_getl hz; rw [(hshp row hmem).2] at this; exact this
                    have hil : i < len := by have := lt_of_getl hxi; omega
                    obtain ⟨hc1', hlt⟩ := hcell i (by omega) j hj
                    have := ((hxs i row hxi).1.1).2 j ((w.cell? ((⟨B, o, none⟩ : Addr).add (i * P.cellsOf e + j))).getD Go.undef) z (by rw [List.getElem?_map, List.getElem?_eq_getElem (show j < (List.range (P.cellsOf e)).length by simpa using hj)]; simp) hz
                    rw [hc1', Array.getElem?_eq_getElem hlt] at this
                    simpa [Array.getD_eq_getD_getElem?, Array.getElem?_eq_getElem hlt] using this
                  · have := (hcell (cap - 1) (by omega) (P.cellsOf e - 1) (by omega)).2
                    have e1 : cap * P.cellsOf e = (cap - 1) * P.cellsOf e + P.cellsOf e := by
                      have : cap = (cap - 1) + 1 := by omega
                      rw [this, Nat.add_mul, Nat.one_mul]; simp
                    omega
              · cases h00
          · rw [hxl, ← hel]
            exact Nat.le_trans (Nat.mul_le_mul_right _ (by omega)) hlen
      | _ => simp at hk
end
end Go.Proofs.YthfkkflogbibfaaGreatDoor.AM
