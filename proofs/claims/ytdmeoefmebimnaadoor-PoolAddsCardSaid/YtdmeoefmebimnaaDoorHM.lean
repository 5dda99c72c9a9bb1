/- Maps that a call itself makes, told by a list of pairs: looked into, written, counted; whatever the types of keys and elements. -/
import Derived.Test.YtdmeoefmebimnaaDoorHW
import Derived.Maps.Own
import Derived.MapKept
set_option linter.unusedVariables false
set_option linter.unusedSectionVars false
set_option linter.unusedSimpArgs false
namespace Go.Proofs.HW
open Go.RowKit Go.MapKept Go.ChangeMaps

section
variable {κ ν : Type} [DecidableEq κ]
def mget : List (κ × ν) → κ → Option ν
  | [], _ => none
  | (k', v) :: m, k => if k = k' then some v else mget m k
def mput : List (κ × ν) → κ → ν → List (κ × ν)
  | [], k, v => [(k, v)]
  | (k', v') :: m, k, v => if k = k' then (k', v) :: m else (k', v') :: mput m k v
def mpos (k : κ) : List κ → List MapEntry → Nat → Option (Nat × Value)
  | k' :: ks, e :: l, i => if k = k' then some (i, e.val) else mpos k ks l (i + 1)
  | _, _, _ => none

end

/-- What the keys of a type are compared by. -/
structure KeyEnc (P : Program) (kt : TypeId) {κ : Type} [DecidableEq κ] (enc : κ → Value) : Prop where
  check : ∀ (e : Bool) (k : κ) (w : World), (Instr.checkKey e 10000 kt (enc k)).run P w = .ok () w
  find : ∀ (k : κ) (l : List MapEntry) (ks : List κ) (w : World), l.map MapEntry.key = ks.map enc → (Instr.findKey kt (enc k) l).run P w = .ok (mpos k ks l 0) w
  stays : ∀ (k : κ) (w : World), (Instr.keyThatStays (enc k) (enc k)).run P w = .ok (enc k) w

/-- Block b of w is a map that holds just these pairs. -/
def MapIs {κ ν : Type} (ek : κ → Value) (ev : ν → Value) (w : World) (b : Nat) (m : List (κ × ν)) : Prop :=
  ∃ es clock, w.heap[b]? = some (.map es clock) ∧ es.toList.map MapEntry.key = (m.map Prod.fst).map ek ∧ es.toList.map MapEntry.val = (m.map Prod.snd).map ev

section
variable {κ ν : Type} [DecidableEq κ] {ek : κ → Value} {ev : ν → Value} {w : World} {b : Nat} {m : List (κ × ν)} {P : Program} {t kt et : TypeId}

theorem MapIs.made (w : World) (ek : κ → Value) (ev : ν → Value) : MapIs ek ev (w.alloc (.map #[] 0)) w.heap.size ([] : List (κ × ν)) :=
  ⟨#[], 0, (MapKept.heap_alloc w _).1, rfl, rfl⟩
theorem MapIs.lt (h : MapIs ek ev w b m) : b < w.heap.size := by
  obtain ⟨es, clock, hb, _⟩ := h
  exact (Array.getElem?_eq_some_iff.1 hb).1
theorem MapIs.move {w' : World} (h : MapIs ek ev w b m) (hb : w'.heap[b]? = w.heap[b]?) : MapIs ek ev w' b m := by
  obtain ⟨es, clock, h1, h2⟩ := h
  exact ⟨es, clock, hb.trans h1, h2⟩
theorem MapIs.below {w' : World} (h : MapIs ek ev w b m) (hb : Below w.heap.size w w') : MapIs ek ev w' b m := h.move (hb.block b h.lt)
theorem MapIs.kept {w' : World} {row : Option Nat} (h : MapIs ek ev w b m) (hg : w.grownBy w' row) (hne : some b ≠ row) : MapIs ek ev w' b m := h.move (hg.block b h.lt hne)
theorem MapIs.alloc (h : MapIs ek ev w b m) (o : Obj) : MapIs ek ev (w.alloc o) b m := h.kept (World.grownBy_alloc w o none) (by simp)
theorem MapIs.drewN (h : MapIs ek ev w b m) (n : Nat) : MapIs ek ev (w.drewN n) b m := h
theorem MapIs.drew (h : MapIs ek ev w b m) : MapIs ek ev w.drew b m := h
theorem MapIs.setCell (h : MapIs ek ev w b m) {p : Addr} (hp : b ≠ p.block) (u : Value) : MapIs ek ev (w.setCell p u) b m := h.move (Below.heap_setCell w p u b hp)

theorem mpos_mget (k : κ) : ∀ (m : List (κ × ν)) (l : List MapEntry) (i : Nat), l.map MapEntry.key = (m.map Prod.fst).map ek → l.map MapEntry.val = (m.map Prod.snd).map ev →
    (mpos k (m.map Prod.fst) l i).map (·.2) = (mget m k).map ev := by
  intro m
  induction m with
  | nil => intro l i h1 h2; cases l with | nil => rfl | cons _ _ => simp at h1
  | cons p m ih =>
    intro l i h1 h2
    obtain ⟨a, v⟩ := p
    cases l with
    | nil => simp at h1
    | cons e l =>
      simp only [List.map_cons, List.cons.injEq] at h1 h2
      unfold mget
      simp only [List.map_cons]
      unfold mpos
      by_cases hk : k = a
      · rw [if_pos hk, if_pos hk]; simp [h2.1]
      · rw [if_neg hk, if_neg hk]; exact ih l (i + 1) h1.2 h2.2

theorem MapIs.look (K : KeyEnc P kt ek) (ht : P.underlying t = some (.map kt et)) {z : Value} (hz : (zeroValue et).run P w = .ok z w) (h : MapIs ek ev w b m) (k : κ) (c : Bool) :
    (Instr.lookup t (.map (some b)) (ek k) c).run P w = .ok (if c then .tuple #[((mget m k).map ev).getD z, .bool (mget m k).isSome] else ((mget m k).map ev).getD z) w := by
  obtain ⟨es, clock, hb, h1, h2⟩ := h
  have hp := mpos_mget (ek := ek) (ev := ev) k m es.toList 0 h1 h2
  have hf := K.find k es.toList (m.map Prod.fst) w h1
  have hgo : (getObj b).run P w = .ok (.map es clock) w := by simp [getObj, Sem.run, hb]
  unfold Instr.lookup
  simp only [Sem.run_bind, run_underlying ht, Result.andThen, hgo, Sem.run_pure, K.check, hf]
  cases hq : mpos k (m.map Prod.fst) es.toList 0 with
  | none =>
    rw [hq] at hp
    have : mget m k = none := by cases e : mget m k with | none => rfl | some x => rw [e] at hp; simp at hp
    simp only [this, Sem.run_bind, hz, Result.andThen, Sem.run_pure]
    cases c <;> simp
  | some q =>
    obtain ⟨i, v⟩ := q
    rw [hq] at hp
    obtain ⟨x, e, hx⟩ : ∃ x, mget m k = some x ∧ ev x = v := by
      cases e : mget m k with
      | none => rw [e] at hp; simp at hp
      | some x => rw [e] at hp; simp at hp; exact ⟨x, rfl, hp.symm⟩
    subst hx
    simp only [e, Sem.run_pure, Result.andThen]
    cases c <;> simp

theorem mput_entries (k : κ) (v : ν) (kv : Value) (hk : kv = ek k) (clock : Nat) : ∀ (m : List (κ × ν)) (l : List MapEntry) (i : Nat), l.map MapEntry.key = (m.map Prod.fst).map ek → l.map MapEntry.val = (m.map Prod.snd).map ev →
    (∀ j x, mpos k (m.map Prod.fst) l i = some (j, x) → i ≤ j ∧ (∃ e, l[j - i]? = some e ∧ MapEntry.key e = kv) ∧ ((l.modify (j - i) fun e : MapEntry => { e with key := kv, val := ev v }).map MapEntry.key = ((mput m k v).map Prod.fst).map ek ∧ (l.modify (j - i) fun e : MapEntry => { e with key := kv, val := ev v }).map MapEntry.val = ((mput m k v).map Prod.snd).map ev)) ∧
    (mpos k (m.map Prod.fst) l i = none → ((l ++ [({ key := kv, val := ev v, born := clock } : MapEntry)]).map MapEntry.key = ((mput m k v).map Prod.fst).map ek ∧ (l ++ [({ key := kv, val := ev v, born := clock } : MapEntry)]).map MapEntry.val = ((mput m k v).map Prod.snd).map ev)) := by
  intro m
  subst hk
  induction m with
  | nil =>
    intro l i h1 h2
    cases l with
    | nil => exact ⟨fun j x h => by simp [mpos] at h, fun _ => by simp [mput]⟩
    | cons _ _ => simp at h1
  | cons p m ih =>
    intro l i h1 h2
    obtain ⟨a, u⟩ := p
    cases l with
    | nil => simp at h1
    | cons e l =>
      simp only [List.map_cons, List.cons.injEq] at h1 h2
      obtain ⟨ih1, ih2⟩ := ih l (i + 1) h1.2 h2.2
      simp only [List.map_cons]
      by_cases hk : k = a
      · subst hk
        refine ⟨fun j x h => ?_, fun h => by unfold mpos at h; rw [if_pos rfl] at h; cases h⟩
        unfold mpos at h
        rw [if_pos rfl] at h
        injection h with h
        injection h with h3 h4
        subst h3
        refine ⟨Nat.le_refl _, ⟨e, by simp, h1.1⟩, ?_, ?_⟩
        · simp [mput, h1.2]
        · simp [mput, h2.2]
      · refine ⟨fun j x h => ?_, fun h => ?_⟩
        · unfold mpos at h
          rw [if_neg hk] at h
          obtain ⟨hle, ⟨e', he, hek⟩, g1, g2⟩ := ih1 j x h
          have ej : j - i = (j - (i + 1)) + 1 := by omega
          refine ⟨by omega, ⟨e', by rw [ej]; simpa using he, hek⟩, ?_, ?_⟩
          · rw [ej, List.modify_succ_cons, List.map_cons, h1.1, g1]
            simp [mput, hk]
          · rw [ej, List.modify_succ_cons, List.map_cons, h2.1, g2]
            simp [mput, hk]
        · unfold mpos at h
          rw [if_neg hk] at h
          obtain ⟨g1, g2⟩ := ih2 h
          refine ⟨?_, ?_⟩
          · rw [List.cons_append, List.map_cons, h1.1, g1]; simp [mput, hk]
          · rw [List.cons_append, List.map_cons, h2.1, g2]; simp [mput, hk]

theorem MapIs.put (K : KeyEnc P kt ek) (ht : P.underlying t = some (.map kt et)) (h : MapIs ek ev w b m) (k : κ) (v : ν) :
    ∃ w', (Instr.mapUpdate t (.map (some b)) (ek k) (ev v)).run P w = .ok () w' ∧ MapIs ek ev w' b (mput m k v) ∧ w.grownBy w' (some b) := by
  obtain ⟨es, clock, hb, h1, h2⟩ := h
  obtain ⟨e1, e2⟩ := mput_entries (ek := ek) (ev := ev) k v (ek k) rfl clock m es.toList 0 h1 h2
  have hf := K.find k es.toList (m.map Prod.fst) w h1
  have hgo : (getObj b).run P w = .ok (.map es clock) w := by simp [getObj, Sem.run, hb]
  have hset : ∀ o : Obj, w.grownBy { w with heap := w.heap.setIfInBounds b o } (some b) := fun o =>
    ⟨rfl, rfl, rfl, by simp, fun i _ hi => (MapKept.heap_set (o' := o) hb).2 i (fun e => hi (by rw [e]))⟩
  cases hq : mpos k (m.map Prod.fst) es.toList 0 with
  | none =>
    obtain ⟨g1, g2⟩ := e2 hq
    refine ⟨{ w with heap := w.heap.setIfInBounds b (.map (es.push { key := ek k, val := ev v, born := clock }) (clock + 1)) }, ?_, ⟨_, _, (MapKept.heap_set hb).1, by simpa using g1, by simpa using g2⟩, hset _⟩
    unfold Instr.mapUpdate
    simp only [Sem.run_bind, run_underlying ht, Result.andThen, hgo, K.check, hf, hq, run_setObj_map _ hb]
  | some q =>
    obtain ⟨j, x⟩ := q
    obtain ⟨_, ⟨e, he, hek⟩, g1, g2⟩ := e1 j x hq
    simp only [Nat.sub_zero] at he g1 g2
    have hkey : ((es[j]?).map MapEntry.key).getD (ek k) = ek k := by
      have : es[j]? = some e := by simpa using he
      rw [this]; simp [hek]
    refine ⟨{ w with heap := w.heap.setIfInBounds b (.map (es.modify j fun e => { e with key := ek k, val := ev v }) clock) }, ?_, ⟨_, _, (MapKept.heap_set hb).1, by simpa using g1, by simpa using g2⟩, hset _⟩
    unfold Instr.mapUpdate
    simp only [Sem.run_bind, run_underlying ht, Result.andThen, hgo, K.check, hf, hq, hkey, K.stays, run_setObj_map _ hb]
end

section
variable {P : Program} {ops : Array Oper} {rest : List Oper} {o : Oper} {a : Act} {Q : Exit → Act → World → Prop}
variable {κ ν : Type} [DecidableEq κ] {ek : κ → Value} {ev : ν → Value} {w : World} {b : Nat} {m : List (κ × ν)} {t kt et : TypeId}

end
end Go.Proofs.HW
