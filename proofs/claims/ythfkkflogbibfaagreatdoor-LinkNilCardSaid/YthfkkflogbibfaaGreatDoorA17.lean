/- The abstract machine: regions that draw their order. -/
import Derived.Test.YthfkkflogbibfaaGreatDoorA16
namespace Go.Proofs.YthfkkflogbibfaaGreatDoor.AM
set_option linter.unusedSectionVars false
set_option linter.unusedVariables false
set_option linter.unusedSimpArgs false

section
variable {E : Env} {f : FuncId} {call : CallF} {N : Nat} {ops : Array Oper}

/-! ## the text's own order -/
theorem trace_spec : ∀ {os : List Oper} {id : Nat} {τ : Fr} {h : H} {tr : List (Fr × H)} {lt : Fr} {lh : H}, traceA E f call N ops os id τ h = .ok (tr, (lt, lh)) →
    tr.length = os.length ∧ frameAt tr lt 0 = τ ∧ heapAt tr lh 0 = h ∧ (∀ i o, os[i]? = some o → stepD E f call N ops (id + alsOf E (os.take i)) (frameAt tr lt i) (heapAt tr lh i) o = .ok (frameAt tr lt (i + 1), heapAt tr lh (i + 1)))
  | [], id, τ, h, tr, lt, lh, ht => by cases ht; exact ⟨rfl, rfl, rfl, fun i o h => by simp at h⟩
  | o :: os, id, τ, h, tr, lt, lh, ht => by
    obtain ⟨⟨τ1, h1⟩, hs, ht⟩ := R.bind_ok ht
    obtain ⟨⟨l, r⟩, hr, ht⟩ := R.bind_ok ht
    cases ht
    obtain ⟨k1, k2, k3, k4⟩ := trace_spec hr
    refine ⟨by simp [k1], rfl, rfl, fun i o' ho => ?_⟩
    cases i with
    | zero =>
      simp at ho; subst ho
      have e1 : frameAt ((τ, h) :: l) lt 1 = frameAt l lt 0 := by simp [frameAt]
      have e2 : heapAt ((τ, h) :: l) lh 1 = heapAt l lh 0 := by simp [heapAt]
      show stepD E f call N ops id τ h o = .ok (frameAt ((τ, h) :: l) lt 1, heapAt ((τ, h) :: l) lh 1)
      rw [e1, e2, k2, k3]; exact hs
    | succ i =>
      have := k4 i o' (by simpa using ho)
      have he : id + alsOf E ((o :: os).take (i + 1)) = (if isAl E o then id + 1 else id) + alsOf E (os.take i) := by
        simp only [alsOf, List.take_succ_cons, List.filter_cons]
        split <;> simp <;> omega
      rw [he]
      simpa [frameAt, heapAt] using this
theorem frameAt_last {tr : List (Fr × H)} {lt : Fr} {n : Nat} (h : tr.length = n) : frameAt tr lt n = lt := by simp [frameAt, ← h]
theorem heapAt_last {tr : List (Fr × H)} {lh : H} {n : Nat} (h : tr.length = n) : heapAt tr lh n = lh := by simp [heapAt, ← h]

/-! ## what must stand ahead -/
theorem foldl_bits (acc : List Nat) (i : Nat) : ∀ (es : List Edge) (s : Nat), (es.foldl (fun s e => if Region.binds .any e then s ||| 2 ^ e.on ||| acc.getD e.on 0 else s) s).testBit i = true →
    s.testBit i = true ∨ ∃ e ∈ es, Region.binds .any e = true ∧ (e.on = i ∨ (acc.getD e.on 0).testBit i = true)
  | [], s, h => .inl h
  | e :: es, s, h => by
    rw [List.foldl_cons] at h
    rcases foldl_bits acc i es _ h with h1 | ⟨e', he, h1⟩
    · split at h1
      · rename_i hb
        simp only [Nat.testBit_or, Bool.or_eq_true, Nat.testBit_two_pow, decide_eq_true_eq] at h1
        rcases h1 with (h1 | h1) | h1
        · exact .inl h1
        · exact .inr ⟨e, List.mem_cons_self .., hb, .inl h1⟩
        · exact .inr ⟨e, List.mem_cons_self .., hb, .inr h1⟩
      · exact .inl h1
    · exact .inr ⟨e', List.mem_cons_of_mem _ he, h1⟩
theorem maskOf_bits {acc : List Nat} {o : Oper} {i : Nat} (h : (maskOf acc o).testBit i = true) : ∃ e ∈ o.after, Region.binds .any e = true ∧ (e.on = i ∨ (acc.getD e.on 0).testBit i = true) := by
  rcases foldl_bits acc i o.after.toList 0 h with h | ⟨e, he, h⟩
  · simp at h
  · exact ⟨e, Array.mem_toList_iff.1 he, h⟩
theorem masks_spec : ∀ (os : List Oper) (acc : List Nat), (masksA os acc).length = acc.length + os.length ∧ (masksA os acc).take acc.length = acc ∧
    ∀ k o, os[k]? = some o → (masksA os acc)[acc.length + k]? = some (maskOf ((masksA os acc).take (acc.length + k)) o)
  | [], acc => ⟨rfl, by simp [masksA], fun k o h => by simp at h⟩
  | o :: os, acc => by
    obtain ⟨h1, h2, h3⟩ := masks_spec os (acc ++ [maskOf acc o])
    simp only [List.length_append, List.length_cons, List.length_nil] at h1 h2 h3
    have h4 : (masksA (o :: os) acc).take acc.length = acc := by
      have := congrArg (List.take acc.length) h2
      rw [List.take_take, Nat.min_eq_left (by omega)] at this
      simp only [masksA]
      rw [this]; simp
    refine ⟨by simp only [masksA, List.length_cons]; omega, h4, fun k o' ho => ?_⟩
    cases k with
    | zero =>
      simp at ho; subst ho
      rw [Nat.add_zero, h4]
      simp only [masksA]
      have : ((masksA os (acc ++ [maskOf acc o])).take (acc.length + 1))[acc.length]? = some (maskOf acc o) := by rw [h2]; simp
      rw [List.getElem?_take, if_pos (by omega)] at this
      exact this
    | succ k =>
      have := h3 k o' (by simpa using ho)
      simp only [masksA]
      rw [show acc.length + (k + 1) = acc.length + 1 + k by omega]
      exact this

theorem opAt_get {i : Nat} (h : i < ops.size) : ops[i]? = some (opAt ops i) := by
  simp [opAt, Array.getD_eq_getD_getElem?, Array.getElem?_eq_getElem h]

/-- a set of operations that holds whatever must stand ahead of its members. -/
def Closed (ops : Array Oper) (D : Nat → Prop) : Prop := ∀ j, j < ops.size → D j → ∀ e ∈ (opAt ops j).after, Region.binds .any e = true → D e.on

structure Masked (ops : Array Oper) (ms : List Nat) : Prop where
  bit : ∀ j, j < ops.size → ∀ i, (ms.getD j 0).testBit i = true → ∃ e ∈ (opAt ops j).after, Region.binds .any e = true ∧ e.on < j ∧ (e.on = i ∨ (ms.getD e.on 0).testBit i = true)
  low : ∀ j, j < ops.size → ∀ e ∈ (opAt ops j).after, Region.binds .any e = true → e.on < j

theorem masked_of (h4 : ∀ j, j < ops.size → ∀ e ∈ (opAt ops j).after, Region.binds .any e = true → e.on < j) : Masked ops (masksA ops.toList []) := by
  refine ⟨fun j hj i hb => ?_, h4⟩
  obtain ⟨h1, h2, h3⟩ := masks_spec ops.toList []
  have h5 := h3 j (opAt ops j) (by rw [Array.getElem?_toList]; exact opAt_get hj)
  simp only [List.length_nil, Nat.zero_add] at h5
  have hg : (masksA ops.toList []).getD j 0 = maskOf ((masksA ops.toList []).take j) (opAt ops j) := by rw [List.getD_eq_getElem?_getD, h5]; rfl
  rw [hg] at hb
  obtain ⟨e, he, hbi, hcase⟩ := maskOf_bits hb
  have hlt := h4 j hj e he hbi
  refine ⟨e, he, hbi, hlt, hcase.imp id fun h => ?_⟩
  rw [List.getD_eq_getElem?_getD, List.getElem?_take, if_pos hlt, ← List.getD_eq_getElem?_getD] at h
  exact h

theorem Masked.closed {ms : List Nat} (hm : Masked ops ms) {D : Nat → Prop} (hc : Closed ops D) : ∀ j, j < ops.size → D j → ∀ i, (ms.getD j 0).testBit i = true → D i := by
  intro j
  induction j using Nat.strongRecOn with
  | _ j ih =>
    intro hj hd i hb
    obtain ⟨e, he, hbi, hlt, hcase⟩ := hm.bit j hj i hb
    have := hc j hj hd e he hbi
    rcases hcase with rfl | h
    · exact this
    · exact ih e.on hlt (by omega) this i h
theorem Masked.ready {ms : List Nat} (hm : Masked ops ms) {D : Nat → Prop} (hc : Closed ops D) {j : Nat} (hj : j < ops.size) (hr : ∀ e ∈ (opAt ops j).after, Region.binds .any e = true → D e.on) {i : Nat} (hb : (ms.getD j 0).testBit i = true) : D i := by
  obtain ⟨e, he, hbi, hlt, hcase⟩ := hm.bit j hj i hb
  rcases hcase with rfl | h
  · exact hr e he hbi
  · exact hm.closed hc e.on (by omega) (hr e he hbi) i h

/-! ## what the checks say -/
def mentions (ops : Array Oper) (o : Oper) (t : Tmp) : Prop := t ∈ o.looksAt ops ∨ o.dst = some t

structure DrawOk (E : Env) (ops : Array Oper) (ms : List Nat) : Prop where
  msk : Masked ops ms
  oo : ∀ i j, i < j → j < ops.size → isO E (opAt ops i) = true → isO E (opAt ops j) = true → isAl E (opAt ops j) = false → (ms.getD j 0).testBit i = true
  tt : ∀ i j t, i < j → j < ops.size → ((opAt ops i).dst = some t ∧ mentions ops (opAt ops j) t ∨ (opAt ops j).dst = some t ∧ mentions ops (opAt ops i) t) → (ms.getD j 0).testBit i = true

theorem drawS_ok (h : drawS E ops (masksA ops.toList []) = true) : DrawOk E ops (masksA ops.toList []) := by
  have key : ∀ j, j < ops.size → ((opAt ops j).after.toList.all fun e => !Region.binds .any e || decide (e.on < j)) = true ∧
      ∀ i, i < j → (((masksA ops.toList []).getD j 0).testBit i || (freeB E (opAt ops i) (opAt ops j) && apartB ops (opAt ops i) (opAt ops j))) = true := by
    intro j hj
    have := List.all_eq_true.1 h j (List.mem_range.2 hj)
    rw [Bool.and_eq_true] at this
    exact ⟨this.1, fun i hi => List.all_eq_true.1 this.2 i (List.mem_range.2 hi)⟩
  refine ⟨masked_of fun j hj e he hb => ?_, fun i j hij hj hi ho hal => ?_, fun i j t hij hj hc => ?_⟩
  · have := List.all_eq_true.1 (key j hj).1 e (Array.mem_toList_iff.2 he)
    simpa [hb] using this
  · have := (key j hj).2 i hij
    rw [freeB, hi, ho, hal] at this
    simpa using this
  · have := (key j hj).2 i hij
    rw [Bool.or_eq_true, Bool.and_eq_true] at this
    rcases this with h1 | ⟨_, h1⟩
    · exact h1
    · exfalso
      rw [apartB, Bool.and_eq_true] at h1
      rcases hc with ⟨hd, hm⟩ | ⟨hd, hm⟩
      · have h2 := h1.1
        rw [hd] at h2
        simp only [Bool.and_eq_true, Bool.not_eq_true', bne_iff_ne, ne_eq] at h2
        rcases hm with hm | hm
        · have := List.contains_iff_mem.2 hm; rw [h2.1] at this; cases this
        · exact h2.2 hm
      · rcases hm with hm | hm
        · have h2 := h1.2
          rw [hd] at h2
          simp only [Bool.not_eq_true'] at h2
          have := List.contains_iff_mem.2 hm; rw [h2] at this; cases this
        · have h2 := h1.1
          rw [hm] at h2
          simp only [Bool.and_eq_true, Bool.not_eq_true', bne_iff_ne, ne_eq] at h2
          exact h2.2 hd

theorem bytes_eq {a b : ByteArray} (h : (a == b) = true) : a = b := by
  rw [beq_toListBytes] at h
  have := eq_of_beq h
  rw [ByteArray.toList_eq, ByteArray.toList_eq] at this
  obtain ⟨⟨x⟩⟩ := a
  obtain ⟨⟨y⟩⟩ := b
  simp at this; rw [this]

theorem sames_eq : ∀ l : List AV, (∀ x, x ∈ l → ∀ y, same x y = true → x = y) → ∀ l', sames l l' = true → l = l'
  | [], _, l', h => by cases l' <;> simp [sames] at h; rfl
  | x :: xs, ih, l', h => by
    cases l' with
    | nil => simp [sames] at h
    | cons y ys =>
      simp only [sames, Bool.and_eq_true] at h
      rw [ih x (List.mem_cons_self ..) y h.1, sames_eq xs (fun z hz => ih z (List.mem_cons_of_mem _ hz)) ys h.2]

theorem same_eq (x : AV) : ∀ y, same x y = true → x = y := by
  refine AV.rec (motive_1 := fun x => ∀ y, same x y = true → x = y) (motive_2 := fun l => ∀ l', sames l l' = true → l = l') ?_ ?_ ?_ ?_ ?_ ?_ ?_ ?_ ?_ ?_ ?_ ?_ ?_ ?_ ?_ ?_ ?_ ?_ ?_ ?_ ?_ x
  all_goals intros
  all_goals first
    | (rename_i y h; cases y <;> simp [same] at h <;> simp_all; done)
    | skip
  · rename_i l o ih y h; cases y <;> simp [same] at h; rw [ih _ h.1, h.2]
  · rename_i s l t ih y h; cases y <;> simp [same] at h; rw [h.1.1, ih _ h.1.2, h.2]
  · rename_i s l ih y h; cases y <;> simp [same] at h; rw [h.1, ih _ h.2]
  · rename_i g l m ih1 ih2 y h; cases y <;> simp [same] at h; rw [h.1.1, ih1 _ h.1.2, ih2 _ h.2]
  · rename_i l ih y h; cases y <;> simp [same] at h; rw [ih _ h]
  · rename_i l ih y h; cases y <;> simp [same] at h; rw [ih _ h]
  · rename_i l' h; cases l' <;> simp [sames] at h; rfl
  · rename_i x xs h1 h2 l' h
    cases l' with
    | nil => simp [sames] at h
    | cons y ys => simp only [sames, Bool.and_eq_true] at h; rw [h1 _ h.1, h2 _ h.2]
theorem sames_eq' {l l' : List AV} (h : sames l l' = true) : l = l' := sames_eq l (fun x _ => same_eq x) l' h
theorem samePairs_eq : ∀ {l l' : List (AV × AV)}, samePairs l l' = true → l = l'
  | [], [], h => rfl
  | x :: xs, y :: ys, h => by
    simp only [samePairs, Bool.and_eq_true] at h
    rw [Prod.ext (same_eq _ _ h.1.1) (same_eq _ _ h.1.2), samePairs_eq h.2]
  | [], _ :: _, h => by simp [samePairs] at h
  | _ :: _, [], h => by simp [samePairs] at h
theorem sameBlk_eq {x y : Option Blk} (h : sameBlk x y = true) : x = y := by
  unfold sameBlk at h
  split at h
  · rfl
  · rw [sames_eq' h]
  · simp only [Bool.and_eq_true, decide_eq_true_eq] at h; rw [h.1, sames_eq' h.2]
  · rw [samePairs_eq h]
  · rfl
  · rfl
  · rfl
  · cases h
end
end Go.Proofs.YthfkkflogbibfaaGreatDoor.AM
