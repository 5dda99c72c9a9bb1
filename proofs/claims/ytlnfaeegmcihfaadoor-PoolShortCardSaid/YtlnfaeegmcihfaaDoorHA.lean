/- Arrays handed back, slices clipped and appended to: what the hand texts of layer 01 and above share. -/
import Derived.Test.YtlnfaeegmcihfaaDoorHW
import Derived.PlainAid
import Derived.Laws.BitsLemmas
set_option linter.unusedVariables false
set_option linter.unusedSectionVars false
set_option linter.unusedSimpArgs false
namespace Go.Proofs.HW
open Go.RowKit Go.Proofs.YtlnfaeegmcihfaaDoorW.PrintWords

theorem results_cell_q {P : Program} {fn : Func} {p q : Tmp} {ty : TypeId} (h : fn.results = #[.cell p ty, .tmp q]) (tmps : Array Value) (w : World) (g : Nat) (t : TypeId) (cs : Array Value) (fr : Nat × Nat) (d : TypeDesc)
    (hp : tmps.getD p undef = .pointer (some ⟨g, 0, none⟩)) (hg : w.heap[g]? = some (.cells cs t fr))
    (hu : P.underlying ty = some d) (hd : (match d with | .struct _ | .array _ _ => true | _ => false) = true) (hi : (P.info? ty).map (·.size) = some cs.size) :
    (results fn tmps).run P w = .ok (.tuple #[.agg cs, tmps.getD q undef]) w := by
  have hp' : tmps[p]?.getD undef = .pointer (some ⟨g, 0, none⟩) := by simpa using hp
  simp [results, h, hp', asAddr, run_loadVar_row w g t ty cs fr d hg hu hd hi]
theorem Below.setRow0 {B : Nat} {a w : World} (h : Below B a w) {g : Nat} (hg : B ≤ g) (cs : Array Value) : Below B a (w.setRow g cs) :=
  h.trans ⟨rfl, rfl, rfl, by simp, fun k hk => setRow_other _ _ _ _ (by omega)⟩

/-- A kind whose elements hold no rows: what is read may stand as made. -/
def Flat {α : Type} (d : Kd α) : Prop := ∀ w x cs, d.K w x cs → ∀ w' base ok, d.M w' base ok x cs
theorem flat_scalar {α : Type} (enc : α → Value) (h1 : ∀ x, (enc x).oneCell' = true) : Flat (Kd.scalar enc h1) := fun _ _ _ h _ _ _ => h

theorem one_of_reps {α : Type} (d : Kd α) {w : World} {ys : List α} {news : List Value} (hs0 : 0 < d.sz) (h : Reps (d.K w) d.sz ys news) : ∀ u ∈ news, u.oneCell' = true := by
  intro u hu
  obtain ⟨q, hq, rfl⟩ := List.mem_iff_getElem.1 hu
  have hql : q / d.sz < ys.length := by
    rw [Nat.div_lt_iff_lt_mul hs0, ← h.1]
    exact hq
  have hc := h.2 (q / d.sz) _ (List.getElem?_eq_getElem hql)
  refine d.K_one hc _ ?_
  rw [List.mem_iff_getElem?]
  refine ⟨q % d.sz, ?_⟩
  rw [List.getElem?_take, if_pos (Nat.mod_lt _ hs0), List.getElem?_drop, Nat.mul_comm, Nat.div_add_mod, List.getElem?_eq_getElem hq]

section
variable {P : Program} {ops : Array Oper} {rest : List Oper} {o : Oper} {a : Act} {Q : Exit → Act → World → Prop} {Kc : Act → World → Prop} {α : Type}
/-- append(x[:len(x):len(x)], ys...), ys not empty: a row of the call's own. -/
theorem run_append_clip (d : Kd α) (hflat : Flat d) {W : World} (t ty e : TypeId) (z : Value) (bytes : Nat)
    (ht : P.underlying t = some (.slice e)) (hinfo : (P.info? e).map (fun i => (i.zero, i.size, i.bytes)) = some (some z, d.sz, bytes)) (hz : z.cells.size = d.sz) (hs0 : 0 < d.sz) (hb0 : 0 < bytes)
    (xs ys : List α) (A B : Option Addr) (n m c : Nat)
    (HX : d.C W A n xs) (HY : d.C W B m ys) (hm : 0 < m) (hl : (n + m) * bytes ≤ 140737488355328) :
    ∃ v1 w1, (Builtin.append_ #[t, t] ty #[.slice A n n, .slice B m c]).run P W = .ok v1 w1 ∧ d.R e w1 W.heap.size (fun _ => True) v1 (xs ++ ys) ∧ Below W.heap.size W w1 ∧ W.grownBy w1 none := by
  obtain ⟨i0, hi, hzz⟩ := Option.map_eq_some_iff.1 hinfo
  simp only [Prod.mk.injEq] at hzz
  obtain ⟨hz0, hz1, hz2⟩ := hzz
  have hxn : xs.length = n := HX.1
  have hym : ys.length = m := HY.1
  have hlen : n + m ≤ 140737488355328 := Nat.le_trans (Nat.le_mul_of_pos_right _ hb0) hl
  obtain ⟨ad, rfl, _⟩ := HY.2.2 hm
  obtain ⟨news, hnr, hnc⟩ := ReadsRow.inner_ HY
  have hone := one_of_reps d hs0 hnr
  have fin : ∀ (olds : List Value) v1 w1, Reps (d.K W) d.sz xs olds → w1.ownsRow W.heap.size e d.sz v1 (n + m) (olds ++ news) → W.grownBy w1 none →
      d.R e w1 W.heap.size (fun _ => True) v1 (xs ++ ys) ∧ Below W.heap.size W w1 := fun olds v1 w1 hor hown hg =>
    ⟨⟨fun _ _ => trivial, olds ++ news, by rw [List.length_append, hxn, hym]; exact hown, Kd.reps_append (hor.imp_ fun _ _ hp => hflat _ _ _ hp _ _ _) (hnr.imp_ fun _ _ hp => hflat _ _ _ hp _ _ _)⟩, (Below.refl _ W).grown hg (Nat.le_refl _) (fun k hk => by cases hk)⟩
  cases A with
  | none =>
    have h0 : n = 0 := by
      rcases Nat.eq_zero_or_pos n with h0 | h0
      · exact h0
      · obtain ⟨ad, h, _⟩ := HX.2.2 h0
        cases h
    subst h0
    obtain rfl : xs = [] := List.eq_nil_of_length_eq_zero (by omega)
    obtain ⟨v', w', hrun, r1, r2, _⟩ := run_append_own (P := P) W W.heap.size t ty e i0 z d.sz bytes ht hi hz0 hz1 hz2 hz hs0 (.slice none 0 0) 0 [] (World.ownsRow_nil W _ e d.sz) ad m c news (by rw [hnr.1, hym]) hnc hone (by simp only [maxLen]; omega) hl (Nat.le_refl _)
    exact ⟨v', w', hrun, (fin [] v' w' (Reps.none _ _) r1 r2).1, (fin [] v' w' (Reps.none _ _) r1 r2).2, r2⟩
  | some b =>
    obtain ⟨olds, hor, hoc⟩ := ReadsRow.inner_ HX
    obtain ⟨v', w', hrun, r1, r2⟩ := run_append_arg_grows (P := P) W t ty e i0 z d.sz bytes ht hi hz0 hz1 hz2 hz hs0 b n n olds (by rw [hor.1, hxn]) hoc ad m c news (by rw [hnr.1, hym]) hnc (by omega) (by simp only [maxLen]; omega) hl
    exact ⟨v', w', hrun, (fin olds v' w' hor r1 r2).1, (fin olds v' w' hor r1 r2).2, r2⟩
theorem R_append_clip (d : Kd α) (hflat : Flat d) {W : World} (hgd : o.guard = none) (s x : Operand) (t e : TypeId) (z : Value) (bytes : Nat)
    (ho : o.op = .call { callee := .builtin .append, args := #[s, x], argTypes := #[t, t] })
    (ht : P.underlying t = some (.slice e)) (hinfo : (P.info? e).map (fun i => (i.zero, i.size, i.bytes)) = some (some z, d.sz, bytes)) (hz : z.cells.size = d.sz) (hs0 : 0 < d.sz) (hb0 : 0 < bytes)
    (xs ys : List α) (A B : Option Addr) (n m c : Nat) (hs : a.eval s = .slice A n n) (hx : a.eval x = .slice B m c)
    (HX : d.C W A n xs) (HY : d.C W B m ys) (hm : 0 < m) (hl : (n + m) * bytes ≤ 140737488355328)
    (h : ∀ v1 w1, d.R e w1 W.heap.size (fun _ => True) v1 (xs ++ ys) → Below W.heap.size W w1 → W.grownBy w1 none → wpList P ops Q rest (a.put o.dst v1) w1) :
    wpList P ops Q (o :: rest) a W := by
  obtain ⟨v1, w1, hr1, h1, hb, hg⟩ := run_append_clip (P := P) d hflat t o.type e z bytes ht hinfo hz hs0 hb0 xs ys A B n m c HX HY hm hl
  refine wpList_plain hgd fun K hK => ?_
  unfold Oper.wp execOp
  simp only [ho, resolve, invoke, builtin, Sem.run_bind, Sem.run_pure, Result.andThen_ok, List.map_toArray, List.map_cons, List.map_nil, hs, hx, hr1]
  exact hK _ _ (h v1 w1 h1 hb hg)
theorem R_append_clip_step (d : Kd α) (hflat : Flat d) {W : World} (N : Option Tmp) (hN : o.dst = N) (hw : Region.wanted o (yielded ops a.tmps) = true) (s x : Operand) (t e : TypeId) (z : Value) (bytes : Nat)
    (ho : o.op = .call { callee := .builtin .append, args := #[s, x], argTypes := #[t, t] })
    (ht : P.underlying t = some (.slice e)) (hinfo : (P.info? e).map (fun i => (i.zero, i.size, i.bytes)) = some (some z, d.sz, bytes)) (hz : z.cells.size = d.sz) (hs0 : 0 < d.sz) (hb0 : 0 < bytes)
    (xs ys : List α) (A B : Option Addr) (n m c : Nat) (hs : a.eval s = .slice A n n) (hx : a.eval x = .slice B m c)
    (HX : d.C W A n xs) (HY : d.C W B m ys) (hm : 0 < m) (hl : (n + m) * bytes ≤ 140737488355328)
    (h : ∀ v1 w1, d.R e w1 W.heap.size (fun _ => True) v1 (xs ++ ys) → Below W.heap.size W w1 → W.grownBy w1 none → Kc (a.put N v1) w1) :
    if Region.wanted o (yielded ops a.tmps) = true then Oper.wp P o a W Kc Q else Kc (a.put N undef) W := by
  subst hN
  rw [if_pos hw]
  obtain ⟨v1, w1, hr1, h1, hb, hg⟩ := run_append_clip (P := P) d hflat t o.type e z bytes ht hinfo hz hs0 hb0 xs ys A B n m c HX HY hm hl
  unfold Oper.wp execOp
  simp only [ho, resolve, invoke, builtin, Sem.run_bind, Sem.run_pure, Result.andThen_ok, List.map_toArray, List.map_cons, List.map_nil, hs, hx, hr1]
  exact h v1 w1 h1 hb hg
end
/-- a[:m], a an array in a variable. -/
theorem run_sliceAt_to {P : Program} (w : World) {t e : TypeId} {n m : Nat} {g : Nat} (hu : P.underlying t = some (.array n e)) (he : (P.info? e).isSome = true) (hm : m ≤ n) :
    (Instr.sliceAt t (.pointer (some ⟨g, 0, none⟩)) none (some (.int .i64 (m : Int))) none).run P w = .ok (.slice (some ⟨g, 0, none⟩) m n) w := by
  obtain ⟨i, hi⟩ := Option.isSome_iff_exists.1 he
  have ha : P.arrayLen t = n := by simp [Program.arrayLen, hu]
  have hb : P.elem t = e := by simp [Program.elem, hu]
  rw [run_sliceAt_array_h w t _ (by rw [ha, hb]; exact hu) .i64 (m : Int) (by omega) (by rw [ha]; omega)]
  have : (⟨g, 0, none⟩ : Addr).add (0 * i.size) = ⟨g, 0, none⟩ := by unfold Addr.add; split <;> simp_all
  simp [sizeOf, typeInfo, hb, hi, slicedAt, ha, Addr.add]
/-- Scalars that stand in a block from some place on. -/
theorem C_block {α : Type} {enc : α → Value} {h1 : ∀ x, (enc x).oneCell' = true} {w : World} {g o : Nat} {cs : Array Value} {t : TypeId} {fr : Nat × Nat} (hg : w.heap[g]? = some (.cells cs t fr)) (xs : List α)
    (hl : xs.length ≤ 9223372036854775807) (hx : ∀ (j : Nat) x, xs[j]? = some x → cs[o + j]? = some (enc x)) : (Kd.scalar enc h1).C w (some ⟨g, o, none⟩) xs.length xs := by
  refine ⟨rfl, hl, fun hn => ⟨_, rfl, fun j x hj => ⟨[enc x], rfl, rfl, fun i u hu => ?_⟩⟩⟩
  have : i = 0 ∧ u = enc x := by
    cases i with
    | zero => simp at hu; exact ⟨rfl, hu.symm⟩
    | succ i => simp at hu
  obtain ⟨rfl, rfl⟩ := this
  have he : (⟨g, o, none⟩ : Addr).add (j * (Kd.scalar enc h1).sz + 0) = ⟨g, o + j, none⟩ := by
    show (⟨g, o, none⟩ : Addr).add (j * 1 + 0) = _
    unfold Addr.add; split <;> simp_all
  rw [he, cell_of_row w g (o + j) cs t fr hg]
  exact hx j x hj
end Go.Proofs.HW
