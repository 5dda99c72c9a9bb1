/- The abstract machine: append, copy, and maps that are written. -/
import Derived.Test.YthfkkflogbibfaaGreatDoorA11
namespace Go.Proofs.YthfkkflogbibfaaGreatDoor.AM
set_option linter.unusedSectionVars false
set_option linter.unusedVariables false
set_option linter.unusedSimpArgs false

section
variable {F : Area} {ρ : Rho} {w : World} {G : Nat → Option (List AV)} {A : Area} {g : View} {w' : World}

theorem row_at {cs : Array Value} {o m : Nat} {l : List AV} (h : CRs F ρ w ((cs.toList.drop o).take m) l) {B : Nat} {e : TypeId} {fz : Nat × Nat} (hb : w.heap[B]? = some (.cells cs e fz)) (hm : m = l.length) {P : Program} :
    (loadCells ⟨B, o, none⟩ m).run P w = .ok ((cs.toList.drop o).take m).toArray w := by subst hm; exact cells_at h hb

/-- the cells that are looked at ahead of an append or a copy. -/
theorem firstCells_run {P : Program} {h : H} {x : AV} {l : List AV} (he : elemsA h x = .ok l) (hr : HR G A ρ w g) (hd : ∀ b, depOf x = some b → g b = h[b]?) {v : Value} (hc : CR (Forb A ρ g) ρ w v x) {s : Nat} (hs : szA x s = true) :
    (∀ y, y ∈ l → y.cells.length = s) ∧ (∃ b c, v = .slice b l.length c ∧ l.length ≤ c) ∧ ∀ n, n ≤ l.length → ∃ arr : Array Value, (Builtin.firstCells s n v).run P w = .ok arr w ∧ CRs (Forb A ρ g) ρ w arr.toList (flat (l.take n)) := by
  obtain ⟨h1, h2⟩ := elemsA_run he hr hd hc hs
  refine ⟨h1, ?_, fun n hn => ?_⟩
  · rcases h2 with ⟨rfl, b, rfl⟩ | ⟨B, o, c, cs, e, fz, rfl, hlc, _, _⟩
    · exact ⟨b, 0, rfl, Nat.le_refl _⟩
    · exact ⟨_, _, rfl, hlc⟩
  · rcases h2 with ⟨rfl, b, rfl⟩ | ⟨B, o, c, cs, e, fz, rfl, hlc, hb, hel⟩
    · obtain rfl : n = 0 := by simpa using hn
      exact ⟨#[], by cases b <;> simp [Builtin.firstCells, loadCells, loadCellsFrom], by simp [flat]; exact .nil⟩
    · rcases Nat.eq_zero_or_pos n with rfl | hn0
      · refine ⟨#[], ?_, by simp [flat]; exact .nil⟩
        simp [Builtin.firstCells, loadCells, loadCellsFrom]
      · have hel := (hel (by omega)).cut 0 n
        rw [List.drop_zero, Nat.zero_mul, Nat.add_zero] at hel
        have hln : (l.take n).length = n := by simp; omega
        have h3 := hel.2
        rw [hln] at h3
        have hfl : n * s = (flat (l.take n)).length := by rw [flat_length hel.1, hln]
        exact ⟨_, by simp only [Builtin.firstCells]; exact row_at h3 hb hfl, by simpa using h3⟩

theorem newsA_run {P : Program} {h : H} {sz : Nat} {xt : TypeId} {x : AV} {l : List AV} (hl : newsA P sz xt x h = .ok l) (hr : HR G A ρ w g) (hd : ∀ b, depOf x = some b → g b = h[b]?) {v : Value} (hc : CR (Forb A ρ g) ρ w v x) :
    (∃ d, P.underlying xt = some d ∧ ∀ k, d ≠ .int k) ∧ (Builtin.lenOf v).run P w = .ok l.length w ∧ (∀ y, y ∈ l → y.cells.length = sz) ∧ ∀ n, n ≤ l.length → ∃ arr : Array Value, (Builtin.firstCells sz n v).run P w = .ok arr w ∧ CRs (Forb A ρ g) ρ w arr.toList (flat (l.take n)) := by
  obtain ⟨d, hdd, hl⟩ := R.bind_ok hl
  split at hl
  · split at hl
    · rename_i hs
      obtain ⟨h1, ⟨b, c, rfl, _⟩, h3⟩ := firstCells_run (P := P) hl hr hd hc hs
      exact ⟨⟨_, under_ok hdd, fun k h => by cases h⟩, rfl, h1, h3⟩
    · cases hl
  · cases x with
    | str s =>
      obtain rfl := toV_eq (x := .string s) (by rfl) hc
      simp only at hl
      by_cases hs : sz = 1
      · rw [if_pos hs] at hl
        cases hl
        subst hs
        have hlen : (ofBytes s).length = s.size := by simp [ofBytes]
        refine ⟨⟨_, under_ok hdd, fun k h => by cases h⟩, by rw [hlen]; rfl, fun y hy => ?_, fun n hn => ?_⟩
        · obtain ⟨b, _, rfl⟩ := List.mem_map.1 hy; rfl
        · refine ⟨_, rfl, ?_⟩
          have hlf : ∀ y, y ∈ (ofBytes s).take n → y.leaf = true := fun y hy => by obtain ⟨b, _, rfl⟩ := List.mem_map.1 (List.mem_of_mem_take hy); rfl
          rw [flat_leaf hlf]
          have hext : (s.extract 0 n).data.toList = s.data.toList.take n := by simp [ByteArray.data_extract]
          refine ⟨?_, fun j v y hv hy => ?_⟩
          · rw [Array.toList_map, List.length_map, hext]; simp [ofBytes]
          · rw [Array.toList_map, hext, List.getElem?_map] at hv
            simp only [ofBytes, ← List.map_take, List.getElem?_map] at hy
            cases hq : (s.data.toList.take n)[j]? with
            | none => rw [hq] at hv; simp at hv
            | some b => rw [hq] at hv hy; simp at hv hy; subst hv; subst hy; exact .int _ _
      · rw [if_neg hs] at hl; cases hl
    | _ => cases hl
  · cases hl

theorem nextcap_le {need c : Nat} (h : c < need) : Builtin.nextslicecap need c ≤ 2 * need := by
  have grow : ∀ r q, q ≤ 2 * need → 256 ≤ q → Builtin.growBy need r q ≤ 2 * need := by
    intro r
    induction r with
    | zero => intro q h1 h2; exact h1
    | succ r ih =>
      intro q h1 h2
      simp only [Builtin.growBy]
      split
      · exact h1
      · exact ih _ (by omega) (by omega)
  unfold Builtin.nextslicecap
  split
  · omega
  · split
    · omega
    · exact grow 4 c (by omega) (by omega)

theorem not_int {d : TypeDesc} (hd : ∀ k, d ≠ .int k) : (match d with | .int k => true | _ => false) = false := by cases d <;> first | rfl | exact absurd rfl (hd _)

section app
variable {P : Program} {st xt e : TypeId} {i : TypeInfo} {z : AV} {zv : Value} {d : TypeDesc} {base : Option Addr} {n c m : Nat} {vx : Value} {ty : TypeId}

/-- append finds room. -/
theorem append_fits (hst : P.underlying st = some (.slice e)) (hi : P.info? e = some i) (hxt : P.underlying xt = some d) (hd : ∀ k, d ≠ .int k) (hlen : (Builtin.lenOf vx).run P w = .ok m w) {arr : Array Value} (hnew : (Builtin.firstCells i.size m vx).run P w = .ok arr w) (hfit : n + m ≤ c) :
    (Builtin.append_ #[st, xt] ty #[.slice base n c, vx]).run P w = ((match base with | some a => storeCells (a.add (n * i.size)) arr.toList | none => pure () : Sem Unit).run P w).andThen fun _ w' => .ok (.slice base (n + m) c) w' := by
  have e1 : (underlying st).run P w = .ok (.slice e) w := run_underlying hst w
  have e2 : (underlying xt).run P w = .ok d w := run_underlying hxt w
  have e3 : (sizeOf e).run P w = .ok i.size w := by simp [sizeOf, typeInfo, hi]
  have hm := not_int hd
  unfold Builtin.append_
  simp only [List.getElem?_toArray, List.getElem?_cons_zero, List.getElem?_cons_succ]
  simp only [Sem.run_bind, e1, e3, Result.andThen_ok, e2, hm, hlen, Bool.false_eq_true, if_false, Bool.not_false, if_true, if_pos hfit, hnew, Sem.run_pure]
  cases base <;> simp

/-- append makes a new row. -/
theorem append_grows (hst : P.underlying st = some (.slice e)) (hi : P.info? e = some i) (hxt : P.underlying xt = some d) (hd : ∀ k, d ≠ .int k) (hlen : (Builtin.lenOf vx).run P w = .ok m w) {arr old : Array Value}
    (hz : i.zero = some zv) (hzs : zv.cells.size = i.size) (hb : 0 < i.bytes) (hroom : (n + m) * i.bytes ≤ 140000000000000) (hgrow : c < n + m) {w1 : World} (hw1 : w1 = { w with drawn := w.drawn + 1 })
    (hold : (Builtin.firstCells i.size n (.slice base n c)).run P w1 = .ok old w1) (hnew : (Builtin.firstCells i.size m vx).run P w1 = .ok arr w1) :
    ∃ cap, ∃ rest : Array Value, n + m ≤ cap ∧ rest.size = (cap - (n + m)) * i.size ∧
    (Builtin.append_ #[st, xt] ty #[.slice base n c, vx]).run P w = .ok (.slice (some ⟨w.heap.size, 0, none⟩) (n + m) cap) { w1 with heap := w1.heap.push (.cells (old ++ arr ++ rest) e) } := by
  have hm := not_int hd
  have e1 : (underlying st).run P w = .ok (.slice e) w := run_underlying hst w
  have e2 : (underlying xt).run P w = .ok d w := run_underlying hxt w
  have e3 : (sizeOf e).run P w = .ok i.size w := by simp [sizeOf, typeInfo, hi]
  have e4 : ∀ w, (typeInfo e).run P w = .ok i w := fun w => by simp [typeInfo, hi]
  have e5 : ∀ w, (zeroValue e).run P w = .ok zv w := fun w => by simp [zeroValue, typeInfo, hi, hz]
  have hnc := nextcap_le hgrow
  have hlim : ¬ (Builtin.nextslicecap (n + m) c * i.bytes > 2 ^ 48) := by
    have h1 := Nat.mul_le_mul_right i.bytes hnc
    rw [Nat.mul_assoc] at h1
    omega
  have hmul : n + m ≤ (n + m) * i.bytes := Nat.le_mul_of_pos_right _ hb
  obtain ⟨cap, hcap⟩ : ∃ cap, cap = (Question.appendCap (n + m) c e).cut (w.tape w.drawn (.appendCap (n + m) c e)) := ⟨_, rfl⟩
  have hcle : n + m ≤ cap := by rw [hcap]; simp only [Question.cut]; omega
  have hfc : (Question.appendCap (n + m) c e).forced = false := rfl
  refine ⟨cap, Builtin.zeroCells zv.cells (cap - (n + m)), hcle, by simp [Builtin.zeroCells, hzs], ?_⟩
  unfold Builtin.append_
  simp only [List.getElem?_toArray, List.getElem?_cons_zero, List.getElem?_cons_succ]
  simp only [Sem.run_bind, e1, e2, e3, Result.andThen_ok, hm, hlen, Bool.false_eq_true, if_false, Bool.not_false, if_true, Sem.run_pure]
  have hnf : ¬ (n + m ≤ c) := by omega
  simp only [hnf, if_false, Sem.run_bind, Sem.run_ite, e4, Result.andThen_ok]
  have hbz : ¬ (i.bytes = 0) := by omega
  simp only [hbz, or_self, and_false, if_false, hlim, Sem.run_bind, run_choose, hfc, Bool.false_eq_true, ← hcap, Result.andThen_ok, e4, run_askRoom]
  rw [← hw1]
  simp only [hold, hnew, e5, Result.andThen_ok, newRow, Sem.run_bind, run_newObj, Sem.run_pure]
  rw [hw1]
end app
end
end Go.Proofs.YthfkkflogbibfaaGreatDoor.AM
