/- The abstract machine: what it says of a call holds of the call. -/
import Derived.Test.YthfkkflogbibfaaGreatDoorA18
import Derived.Scope
namespace Go.Proofs.YthfkkflogbibfaaGreatDoor.AM
set_option linter.unusedSectionVars false
set_option linter.unusedVariables false
set_option linter.unusedSimpArgs false

section
variable {E : Env} {f : FuncId} {call : CallF} {N : Nat} {ops : Array Oper} {T : Nat → Fr} {Hh : Nat → H} {ms : List Nat}

/-- the listed set with one more. -/
theorem closed_set {listed : Array Bool} (hc : Closed ops (Done listed)) {j : Nat} (hj : j < listed.size) (hr : ∀ e ∈ (opAt ops j).after, Region.binds .any e = true → Done listed e.on) : Closed ops (Done (listed.setIfInBounds j true)) := by
  intro k hk hd e he hb
  rw [done_set hj] at hd ⊢
  rcases hd with rfl | hd
  · exact .inr (hr e he hb)
  · exact .inr (hc k hk hd e he hb)

/-- the slots behind one operation more. -/
theorem slots_step (hR : Run E f call N ops T Hh) (hD : DrawOk E ops ms) {listed : Array Bool} (hsz : listed.size = ops.size) (hcl : Closed ops (Done listed)) {j : Nat} (hj : j < ops.size) (hnd : ¬ Done listed j) {F : Area} {ρ : Rho} {w : World} {a : Act} {v : Value} {y : AV}
    (hN : a.tmps.size = N) (hold : ∀ t q, q ≤ ops.size → (∀ i, i < q → (opAt ops i).dst = some t → Done listed i) → (∀ i, q ≤ i → i < ops.size → (opAt ops i).dst = some t → ¬ Done listed i) → CR F ρ w (a.tmps.getD t Go.undef) (T q t))
    (hv : CR F ρ w v y) (hp : putA N (T j) (opAt ops j).dst y = .ok (T (j + 1))) :
    ∀ t q, q ≤ ops.size → (∀ i, i < q → (opAt ops i).dst = some t → Done (listed.setIfInBounds j true) i) → (∀ i, q ≤ i → i < ops.size → (opAt ops i).dst = some t → ¬ Done (listed.setIfInBounds j true) i) → CR F ρ w ((a.put (opAt ops j).dst v).tmps.getD t Go.undef) (T q t) := by
  intro t q hq h1 h2
  have hjl : j < listed.size := by omega
  by_cases ht : (opAt ops j).dst = some t
  · have hjq : j < q := by
      rcases Nat.lt_or_ge j q with h | h
      · exact h
      · exact absurd ((done_set hjl j).2 (.inl rfl)) (h2 j h hj ht)
    have hno : ∀ i, j + 1 ≤ i → i < q → (opAt ops i).dst ≠ some t := by
      intro i hi hiq hd
      have hdone := (done_set hjl i).1 (h1 i hiq hd)
      rcases hdone with h | h
      · omega
      · exact hnd (hD.msk.closed hcl i (by omega) h j (hD.tt j i t (by omega) (by omega) (.inl ⟨ht, .inr hd⟩)))
    have hTq := hR.slot (t := t) (show j + 1 ≤ q by omega) hq hno
    rw [ht] at hp ⊢
    obtain ⟨h3, h4⟩ := putA_self hp
    rw [← hTq, h3]
    have hlt : t < a.tmps.size := by rw [hN]; exact h4
    simp only [Act.put, Array.getD_eq_getD_getElem?, Array.getElem?_setIfInBounds_self_of_lt hlt, Option.getD_some]
    exact hv
  · have hsame : (a.put (opAt ops j).dst v).tmps.getD t Go.undef = a.tmps.getD t Go.undef := by
      cases hd : (opAt ops j).dst with
      | none => rfl
      | some d =>
        have : d ≠ t := fun e => ht (by rw [hd, e])
        simp [Act.put, Array.getD_eq_getD_getElem?, Array.getElem?_setIfInBounds_ne this]
    rw [hsame]
    refine hold t q hq (fun i hi hd => ?_) (fun i hi hin hd hdone => ?_)
    · rcases (done_set hjl i).1 (h1 i hi hd) with h | h
      · rw [h] at hd; exact absurd hd ht
      · exact h
    · exact h2 i hi hin hd ((done_set hjl i).2 (.inr hdone))

theorem any_wp (hS : Smet E.P E.S) (hC : COK E) (hcall : CallOK E call) (hR : Run E f call N ops T Hh) (hD : DrawOk E ops ms)
    (hreads : ∀ j i b, j < ops.size → i < ops.size → kindOf E (opAt ops j).op = .read → isO E (opAt ops i) = true → (ms.getD j 0).testBit i = false → (ms.getD i 0).testBit j = false → i ≠ j → readDep E (T j) (opAt ops j) = some b → (Hh i)[b]? = (Hh (i + 1))[b]?)
    {A : Area} {ρ0 : Rho} {w0 : World} {Q : Exit → Act → World → Prop}
    (hQ : ∀ ρ w a, Ext (Own ρ0 (view (Hh 0))) ρ0 w0 (Own ρ (view (Hh ops.size))) ρ w → St E A ρ w a (T ops.size) (view (Hh ops.size)) N → Q .normal a w) :
    ∀ (fuel : Nat) (listed : Array Bool) (ρ : Rho) (w : World) (a : Act) (p : Nat), listed.toList.count false = fuel → Inv E N ops T Hh A listed ρ0 w0 ρ w a p → wpAny E.P .any ops Q fuel listed a w := by
  have fin : ∀ (listed : Array Bool) (ρ : Rho) (w : World) (a : Act) (p : Nat), Inv E N ops T Hh A listed ρ0 w0 ρ w a p → Region.ready .any ops listed = [] → Q .normal a w := by
    intro listed ρ w a p hI hr
    have hall := all_done hI.size hD.msk hr
    have hheap : Hh p = Hh ops.size := hR.heap hI.le (Nat.le_refl _) (fun i h1 h2 => by
      cases ho : isO E (opAt ops i)
      · rfl
      · have := (hI.base i h2 ho).1 (hall i h2); omega)
    refine hQ ρ w a (hheap ▸ hI.ext) ⟨hheap ▸ hI.hr, fun t => ?_, hI.sz, hI.de⟩
    have := hI.slots t ops.size (Nat.le_refl _) (fun i hi _ => hall i hi) (fun i h1 h2 => by omega)
    rw [hheap] at this; exact this
  intro fuel
  induction fuel with
  | zero =>
    intro listed ρ w a p hcnt hI
    have hready : Region.ready .any ops listed = [] := by
      refine List.eq_nil_iff_forall_not_mem.2 fun j hj => ?_
      obtain ⟨h1, h2, _⟩ := mem_ready hI.size hj
      have hlt : j < listed.size := by have := hI.size; omega
      have : listed[j] = false := by
        cases hb : listed[j]
        · rfl
        · exact absurd (by unfold Done; rw [Array.getElem?_eq_getElem hlt, hb]) h2
      have hm : false ∈ listed.toList := by rw [← this, Array.mem_toList_iff]; exact Array.getElem_mem hlt
      exact absurd hcnt (Nat.ne_of_gt (List.count_pos_iff.2 hm))
    exact ⟨hready, fin listed ρ w a p hI hready⟩
  | succ fuel ih =>
    intro listed ρ w a p hcnt hI
    refine ⟨fin listed ρ w a p hI, fun j hj => ?_⟩
    obtain ⟨hjn, hnd, hrd⟩ := mem_ready hI.size hj
    have hjl : j < listed.size := by have := hI.size; omega
    have hcnt' : (listed.setIfInBounds j true).toList.count false = fuel := by
      have hb : listed.toList[j]? = some false := by
        rw [Array.getElem?_toList, Array.getElem?_eq_getElem hjl]
        cases hb : listed[j]
        · rfl
        · exact absurd (by unfold Done; rw [Array.getElem?_eq_getElem hjl, hb]) hnd
      rw [Array.toList_setIfInBounds]
      have hjl' : j < listed.toList.length := by simpa using hjl
      have hbe : listed.toList[j] = false := by rw [List.getElem?_eq_getElem hjl'] at hb; exact Option.some.inj hb
      rw [List.count_set hjl']
      simp [hbe, hcnt]
    have hanc : ∀ i, (ms.getD j 0).testBit i = true → Done listed i := fun i hb => hD.msk.ready hI.closed hjn hrd hb
    -- the operands
    have hlook : ∀ t, mentions ops (opAt ops j) t → CR (Forb A ρ (view (Hh p))) ρ w (a.tmps.getD t Go.undef) (T j t) := by
      intro t ht
      refine hI.slots t j (by omega) (fun i hi hd => hanc i (hD.tt i j t hi hjn (.inl ⟨hd, ht⟩))) (fun i hi hin hd hdone => ?_)
      rcases Nat.lt_or_ge j i with hlt | hge
      · exact hnd (hD.msk.closed hI.closed i hin hdone j (hD.tt j i t hlt hin (.inr ⟨hd, ht⟩)))
      · obtain rfl : i = j := by omega
        exact hnd hdone
    obtain ⟨qf, hqf⟩ := Classical.axiomOfChoice (fun t => hI.least hD t)
    obtain ⟨σ, hσ⟩ : ∃ σ : Fr, σ = fun t => open Classical in if mentions ops (opAt ops j) t then T j t else T (qf t) t := ⟨_, rfl⟩
    have hσl : ∀ t, t ∈ (opAt ops j).looksAt ops → T j t = σ t := fun t ht => by rw [hσ]; simp [show mentions ops (opAt ops j) t from .inl ht]
    have hfr : FRel (Forb A ρ (view (Hh p))) ρ w a.tmps σ := by
      intro t
      rw [hσ]
      by_cases ht : mentions ops (opAt ops j) t
      · simp only [ht, if_true]; exact hlook t ht
      · simp only [ht, if_false]; exact hI.slots t (qf t) (hqf t).1 (hqf t).2.1 (hqf t).2.2
    have hwant : Region.wanted (opAt ops j) (yielded ops a.tmps) = wantA ops (T j) (opAt ops j) := by
      rw [want_eq hfr, wantA_congr hσl]
    have hstep := stepA_inv (hR.step j hjn)
    -- the rest, behind this operation
    have next : ∀ (v : Value) (w' : World) (ρ' : Rho) (y : AV) (p' : Nat), p' ≤ ops.size → (∀ i, i < ops.size → isO E (opAt ops i) = true → (Done (listed.setIfInBounds j true) i ↔ i < p')) → Ext (Own ρ (view (Hh p))) ρ w (Own ρ' (view (Hh p'))) ρ' w' → HR E.G A ρ' w' (view (Hh p')) →
        CR (Forb A ρ' (view (Hh p'))) ρ' w' v y → putA N (T j) (opAt ops j).dst y = .ok (T (j + 1)) → wpAny E.P .any ops Q fuel (listed.setIfInBounds j true) (a.put (opAt ops j).dst v) w' := by
      intro v w' ρ' y p' hp' hbase hx hr hv hput
      refine ih _ ρ' w' _ p' hcnt' ⟨by simpa using hI.size, closed_set hI.closed hjl hrd, hp', hbase, hr, hI.ext.trans hx, ?_, by rw [put_size]; exact hI.sz, by rw [put_defers]; exact hI.de⟩
      exact slots_step hR hD hI.size hI.closed hjn hnd hI.sz (fun t q h1 h2 h3 => (hI.slots t q h1 h2 h3).ext hx) hv hput
    unfold wpOp
    rw [opAt_get hjn]
    simp only [hwant]
    cases hO : isO E (opAt ops j)
    · -- it makes and writes nothing
      have hbase : ∀ i, i < ops.size → isO E (opAt ops i) = true → (Done (listed.setIfInBounds j true) i ↔ i < p) := by
        intro i hi ho
        rw [done_set hjl]
        constructor
        · rintro (rfl | h)
          · rw [hO] at ho; cases ho
          · exact (hI.base i hi ho).1 h
        · exact fun h => .inr ((hI.base i hi ho).2 h)
      rcases hstep with ⟨hw, y, hop, hput⟩ | ⟨hw, hh, hput⟩
      · rw [if_pos hw]
        left
        rw [opA_congr (agree_of hσl)] at hop
        refine quiet_wp hS hC hop hO hI.hr hfr (fun hk b hb => ?_) (fun _ v w' ρ' hx hr hv => next v w' ρ' y p hI.le hbase hx hr hv hput)
        rw [← readDep_congr (agree_of hσl)] at hb
        have hblk : ∀ i, i < ops.size → isO E (opAt ops i) = true → (p ≤ i ∧ i < j ∨ j ≤ i ∧ i < p) → (Hh i)[b]? = (Hh (i + 1))[b]? := by
          intro i hi ho hcase
          have hne : i ≠ j := fun e => by rw [e, hO] at ho; cases ho
          have hb1 : (ms.getD j 0).testBit i = false := by
            rcases hcase with ⟨h1, h2⟩ | ⟨h1, h2⟩
            · cases hbit : (ms.getD j 0).testBit i
              · rfl
              · have := (hI.base i hi ho).1 (hanc i hbit); omega
            · cases hbit : (ms.getD j 0).testBit i
              · rfl
              · obtain ⟨k, hk1, hk2⟩ : ∃ k, True ∧ True := ⟨0, trivial, trivial⟩
                have : i < j := by
                  have low : ∀ n j, j < n → j < ops.size → ∀ i, (ms.getD j 0).testBit i = true → i < j := by
                    intro n
                    induction n with
                    | zero => intro j h; omega
                    | succ n ihn =>
                      intro j hj' hjn' i hbt
                      obtain ⟨e, he, hbi, hlt, hc⟩ := hD.msk.bit j hjn' i hbt
                      rcases hc with rfl | hc
                      · exact hlt
                      · have := ihn e.on (by omega) (by omega) i hc; omega
                  exact low (j + 1) j (by omega) hjn i hbit
                omega
          have hb2 : (ms.getD i 0).testBit j = false := by
            cases hbit : (ms.getD i 0).testBit j
            · rfl
            · rcases hcase with ⟨h1, h2⟩ | ⟨h1, h2⟩
              · have low : ∀ n j, j < n → j < ops.size → ∀ i, (ms.getD j 0).testBit i = true → i < j := by
                  intro n
                  induction n with
                  | zero => intro j h; omega
                  | succ n ihn =>
                    intro j hj' hjn' i hbt
                    obtain ⟨e, he, hbi, hlt, hc⟩ := hD.msk.bit j hjn' i hbt
                    rcases hc with rfl | hc
                    · exact hlt
                    · have := ihn e.on (by omega) (by omega) i hc; omega
                have := low (i + 1) i (by omega) hi j hbit
                omega
              · have hdi : Done listed i := (hI.base i hi ho).2 h2
                exact absurd (hD.msk.closed hI.closed i hi hdi j hbit) hnd
          exact hreads j i b hjn hi hk ho hb1 hb2 hne hb
        rcases Nat.le_total p j with hpj | hpj
        · exact hR.same hpj (by omega) (fun i h1 h2 ho => hblk i (by omega) ho (.inl ⟨h1, h2⟩))
        · exact (hR.same hpj hI.le (fun i h1 h2 ho => hblk i (by have := hI.le; omega) ho (.inr ⟨h1, h2⟩))).symm
      · rw [if_neg (by simp [hw])]
        exact next Go.undef w ρ undef p hI.le hbase (Ext.refl _ _ _) hI.hr undef_cr hput
    · -- it makes or writes memory: all of these stand in the text's order
      have hpj : p ≤ j := by
        rcases Nat.lt_or_ge j p with h | h
        · exact absurd ((hI.base j hjn hO).2 h) hnd
        · exact h
      have hheap : Hh p = Hh j := hR.heap hpj (by omega) (fun i h1 h2 => by
        cases ho : isO E (opAt ops i)
        · rfl
        · have := (hI.base i (by omega) ho).1 (hanc i (hD.oo i j h2 hjn ho hO)); omega)
      have hbase : ∀ i, i < ops.size → isO E (opAt ops i) = true → (Done (listed.setIfInBounds j true) i ↔ i < j + 1) := by
        intro i hi ho
        rw [done_set hjl]
        constructor
        · rintro (rfl | h)
          · omega
          · have := (hI.base i hi ho).1 h; omega
        · intro h
          rcases Nat.lt_or_ge i j with h1 | h1
          · exact .inr (hanc i (hD.oo i j h1 hjn ho hO))
          · exact .inl (by omega)
      have hst : St E A ρ w a σ (view (Hh j)) N := ⟨hheap ▸ hI.hr, hheap ▸ hfr, hI.sz, hI.de⟩
      rcases hstep with ⟨hw, y, hop, hput⟩ | ⟨hw, hh, hput⟩
      · rw [if_pos hw]
        left
        rw [opA_congr (agree_of hσl)] at hop
        exact opA_wp hS hC hcall hop hst (fun v w' ρ' hx hr hv => next v w' ρ' y (j + 1) (by omega) hbase (by rw [hheap]; exact hx) hr hv hput)
      · rw [if_neg (by simp [hw])]
        exact next Go.undef w ρ undef (j + 1) (by omega) hbase (by rw [hh, hheap]; exact Ext.refl _ _ _) (by rw [hh, ← hheap]; exact hI.hr) undef_cr hput

/-- a region. -/
theorem regionA_wp (hS : Smet E.P E.S) (hC : COK E) (hcall : CallOK E call) (hmix : E.P.follows .mixedOrders = true) {id : Nat} {draw : Bool} {τ τ' : Fr} {h h' : H} (ho : regionA E f call N ops draw τ h = .ok (τ', h')) {A : Area} {ρ : Rho} {w : World} {a : Act} (hs : St E A ρ w a τ (view h) N) {Q : Exit → Act → World → Prop}
    (hQ : ∀ a' w' ρ', Ext (Own ρ (view h)) ρ w (Own ρ' (view h')) ρ' w' → St E A ρ' w' a' τ' (view h') N → Q .normal a' w') : (Code.region id ops draw).wp E.P Q a w := by
  cases draw with
  | false =>
    refine wp_region ?_
    rw [List.range_eq_range']
    exact opsA_wp hS hC hcall ops.size 0 τ h ρ w a (by omega) ho hs hQ
  | true =>
    simp only [regionA] at ho
    obtain ⟨⟨tr, lt, lh⟩, htr, ho⟩ := R.bind_ok ho
    simp only at ho
    split at ho
    · rename_i hds
      split at ho
      · rename_i hdd
        cases ho
        obtain ⟨t1, t2, t3, t4⟩ := trace_spec htr
        have hlen : tr.length = ops.size := by simpa using t1
        have hR : Run E f call N ops (frameAt tr τ') (heapAt tr h') := ⟨fun i hi => t4 i _ (by rw [Array.getElem?_toList]; exact opAt_get hi)⟩
        have hD := drawS_ok hds
        have hw1 : ({ w with drawn := w.drawn + 1 } : World).heap = w.heap := rfl
        obtain ⟨hr1, hx1⟩ := hs.hr.heap hw1 ⟨rfl, rfl, rfl⟩
        refine wp_region_any hmix ?_
        refine any_wp (T := frameAt tr τ') (Hh := heapAt tr h') (ρ0 := ρ) (w0 := w) (A := A) hS hC hcall hR hD ?_ ?_ ops.size _ ρ _ a 0 ?_ ?_
        · intro j i b hj hi hk ho hb1 hb2 hne hdep
          have hmem : (j, i) ∈ pairsA E ops (masksA ops.toList []) := by
            unfold pairsA
            rw [List.mem_flatMap]
            refine ⟨j, List.mem_range.2 hj, ?_⟩
            rw [if_pos hk, List.mem_map]
            refine ⟨i, List.mem_filter.2 ⟨List.mem_range.2 hi, ?_⟩, rfl⟩
            simp only [ho, hb1, hb2, Bool.not_false, Bool.and_true, Bool.true_and, Bool.not_eq_true', beq_eq_false_iff_ne]
            exact hne
          have := List.all_eq_true.1 hdd (j, i) hmem
          simp only [hdep] at this
          exact sameBlk_eq this
        · intro ρ' w' a' hx hst
          rw [frameAt_last hlen, heapAt_last hlen] at hst
          rw [heapAt_last hlen, t3] at hx
          exact hQ a' w' ρ' hx hst
        · simp
        · refine ⟨by simp, fun j hj hd => ?_, Nat.zero_le _, fun i hi ho => ⟨fun hd => ?_, fun h => by omega⟩, by rw [t3]; exact hr1, by rw [t3]; exact hx1, fun t q hq h1 h2 => ?_, hs.sz, hs.de⟩
          · unfold Done at hd; simp [Array.getElem?_replicate] at hd
          · unfold Done at hd; simp [Array.getElem?_replicate] at hd
          · have : frameAt tr τ' 0 t = frameAt tr τ' q t := hR.slot (t := t) (Nat.zero_le q) hq (fun i _ hi hd => by
              have := h1 i hi hd
              unfold Done at this; simp [Array.getElem?_replicate] at this)
            rw [← this, t2, t3]
            exact (hs.fr t).ext hx1
      · cases ho
    · cases ho

/-! ## code -/
def X.exit' : X → Exit
  | .normal => .normal
  | .ret => .ret
  | .exit id => .exit id

def Post (E : Env) (A : Area) (N : Nat) (ρ : Rho) (w : World) (h : H) (x : X) (τ' : Fr) (h' : H) : Exit → Act → World → Prop :=
  fun e a' w' => e = x.exit' ∧ ∃ ρ', Ext (Own ρ (view h)) ρ w (Own ρ' (view h')) ρ' w' ∧ St E A ρ' w' a' τ' (view h') N

theorem Post.from {A : Area} {ρ ρ1 : Rho} {w w1 : World} {h h1 : H} {x : X} {τ' : Fr} {h' : H} {e : Exit} {a' : Act} {w' : World} (hx : Ext (Own ρ (view h)) ρ w (Own ρ1 (view h1)) ρ1 w1) (hp : Post E A N ρ1 w1 h1 x τ' h' e a' w') : Post E A N ρ w h x τ' h' e a' w' :=
  let ⟨h1, ρ', h2, h3⟩ := hp
  ⟨h1, ρ', hx.trans h2, h3⟩

theorem iter_wp {g : Fr → H → R (X × Fr × H)} {c : Code} {A : Area}
    (hg : ∀ τ h x τ' h' ρ w a, g τ h = .ok (x, τ', h') → St E A ρ w a τ (view h) N → c.wp E.P (Post E A N ρ w h x τ' h') a w) {x : X} {τ' : Fr} {h' : H} (n : Nat) (τ : Fr) (h : H) (ρ : Rho) (w : World) (a : Act)
    (hi : iter g n τ h = .ok (x, τ', h')) (hs : St E A ρ w a τ (view h) N) : (Code.loop c).wp E.P (Post E A N ρ w h x τ' h') a w := by
  intro b k cs
  have key : ∀ (n : Nat) (τ : Fr) (h : H) (ρ : Rho) (w : World) (a : Act), iter g n τ h = .ok (x, τ', h') → St E A ρ w a τ (view h) N →
      ∃ e a' w', Post E A N ρ w h x τ' h' e a' w' ∧ Arrives E.P (lone (b.at a (.code c :: .inLoop c :: k)) cs w) b k cs e a' w' := by
    intro n
    induction n with
    | zero => intro τ h ρ w a hi; cases hi
    | succ n ih =>
      intro τ h ρ w a hi hs
      simp only [iter] at hi
      cases hgr : g τ h with
      | no s => rw [hgr] at hi; cases hi
      | ok r =>
        obtain ⟨x1, τ1, h1⟩ := r
        obtain ⟨e, a1, w1, ⟨he, ρ1, hx1, hst1⟩, harr⟩ := hg τ h x1 τ1 h1 ρ w a hgr hs b (.inLoop c :: k) cs
        rw [hgr] at hi
        cases x1 with
        | normal =>
          simp only at hi
          subst he
          obtain ⟨e2, a2, w2, hq2, harr2⟩ := ih τ1 h1 ρ1 w1 a1 hi hst1
          exact ⟨e2, a2, w2, hq2.from hx1, .of_steps (Steps.trans harr (.one step_inLoop)) harr2⟩
        | ret =>
          simp only at hi
          cases hi
          subst he
          exact ⟨_, a1, w1, ⟨rfl, ρ1, hx1, hst1⟩, .pass (x := .inLoop c) rfl (fun _ _ => .inl (by simp [X.exit'])) harr⟩
        | exit id =>
          simp only at hi
          cases hi
          subst he
          exact ⟨_, a1, w1, ⟨rfl, ρ1, hx1, hst1⟩, .pass (x := .inLoop c) rfl (fun _ _ => .inl (by simp [X.exit'])) harr⟩
  obtain ⟨e, a', w', hq, harr⟩ := key n τ h ρ w a hi hs
  exact ⟨e, a', w', hq, .of_steps (.one step_loop) harr⟩

theorem exec_wp (hS : Smet E.P E.S) (hC : COK E) (hcall : CallOK E call) (hmix : E.P.follows .mixedOrders = true) {A : Area} : ∀ (c : Code) (τ : Fr) (h : H) (x : X) (τ' : Fr) (h' : H) (ρ : Rho) (w : World) (a : Act),
    exec E f call N c τ h = .ok (x, τ', h') → St E A ρ w a τ (view h) N → c.wp E.P (Post E A N ρ w h x τ' h') a w := by
  intro c
  induction c with
  | skip =>
    intro τ h x τ' h' ρ w a he hs
    cases he
    exact wp_skip ⟨rfl, ρ, Ext.refl _ _ _, hs⟩
  | label l =>
    intro τ h x τ' h' ρ w a he hs
    cases he
    exact wp_label ⟨rfl, ρ, Ext.refl _ _ _, hs⟩
  | region id ops draw =>
    intro τ h x τ' h' ρ w a he hs
    simp only [exec] at he
    obtain ⟨⟨τ1, h1⟩, hr, he⟩ := R.bind_ok he
    cases he
    exact regionA_wp hS hC hcall hmix hr hs (fun a' w' ρ' hx hst => ⟨rfl, ρ', hx, hst⟩)
  | seq c d ihc ihd =>
    intro τ h x τ' h' ρ w a he hs
    simp only [exec] at he
    refine wp_seq ?_
    cases hc : exec E f call N c τ h with
    | no s => rw [hc] at he; cases he
    | ok r =>
      obtain ⟨x1, τ1, h1⟩ := r
      rw [hc] at he
      refine wp_mono (ihc τ h x1 τ1 h1 ρ w a hc hs) ?_
      rintro e a1 w1 ⟨rfl, ρ1, hx1, hst1⟩
      cases x1 with
      | normal =>
        simp only at he
        exact wp_mono (ihd τ1 h1 x τ' h' ρ1 w1 a1 he hst1) (fun e a2 w2 hp => hp.from hx1)
      | ret => simp only at he; cases he; exact ⟨rfl, ρ1, hx1, hst1⟩
      | exit id => simp only at he; cases he; exact ⟨rfl, ρ1, hx1, hst1⟩
  | cond c d e ihd ihe =>
    intro τ h x τ' h' ρ w a he hs
    simp only [exec] at he
    cases hc : ev E τ c with
    | no s => rw [hc] at he; cases he
    | ok v =>
      rw [hc] at he
      have hcr := ev_cr hs.fr hs.hr.glob' hc
      cases v with
      | bool b =>
        have hb := toV_eq (x := .bool b) (by rfl) hcr
        cases b with
        | true => simp only at he; exact wp_cond_true hb (ihd τ h x τ' h' ρ w a he hs)
        | false => simp only at he; exact wp_cond_false hb (ihe τ h x τ' h' ρ w a he hs)
      | _ => cases he
  | block id c ih =>
    intro τ h x τ' h' ρ w a he hs
    simp only [exec] at he
    refine wp_block ?_
    cases hc : exec E f call N c τ h with
    | no s => rw [hc] at he; cases he
    | ok r =>
      obtain ⟨x1, τ1, h1⟩ := r
      rw [hc] at he
      refine wp_mono (ih τ h x1 τ1 h1 ρ w a hc hs) ?_
      rintro e a1 w1 ⟨rfl, ρ1, hx1, hst1⟩
      cases x1 with
      | normal => simp only at he; cases he; exact ⟨rfl, ρ1, hx1, hst1⟩
      | ret => simp only at he; cases he; exact ⟨rfl, ρ1, hx1, hst1⟩
      | exit i =>
        simp only at he
        cases he
        simp only [X.exit', Exit.inBlock]
        by_cases hi : i = id
        · rw [if_pos hi]; rw [if_pos hi]; exact ⟨rfl, ρ1, hx1, hst1⟩
        · rw [if_neg hi]; rw [if_neg hi]; exact ⟨rfl, ρ1, hx1, hst1⟩
  | loop c ih =>
    intro τ h x τ' h' ρ w a he hs
    simp only [exec] at he
    exact iter_wp (fun τ h x τ' h' ρ w a hg hst => ih τ h x τ' h' ρ w a hg hst) E.M τ h ρ w a he hs
  | scope c ih =>
    intro τ h x τ' h' ρ w a he hs
    simp only [exec] at he
    refine wp_scope_straight (wp_mono (ih τ h x τ' h' ρ w a he hs) ?_)
    rintro e a1 w1 ⟨rfl, ρ1, hx1, hst1⟩
    cases x <;> exact ⟨rfl, ρ1, hx1, hst1⟩
  | exit i =>
    intro τ h x τ' h' ρ w a he hs
    cases he
    exact wp_exit ⟨rfl, ρ, Ext.refl _ _ _, hs⟩
  | ret =>
    intro τ h x τ' h' ρ w a he hs
    cases he
    exact wp_ret ⟨rfl, ρ, Ext.refl _ _ _, hs⟩
  | _ => intro τ h x τ' h' ρ w a he hs; cases he

theorem loadA_addr {P : Program} {h : H} {t : TypeId} {p y : AV} (hl : loadA P h t p = .ok y) {F : Area} {ρ : Rho} {w : World} {v : Value} (hc : CR F ρ w v p) : ∃ ad, v = .pointer (some ad) := by
  cases hc <;> first | exact ⟨_, rfl⟩ | cases hl

def resOf (tmps : Array Value) : ResultVar → Sem Value
  | .tmp t => pure (tmps.getD t Go.undef)
  | .cell a t => do loadVar t (← asAddr (tmps.getD a Go.undef))
theorem resOf_tmp (tmps : Array Value) (t : Tmp) : resOf tmps (.tmp t) = pure (tmps.getD t Go.undef) := rfl
theorem resOf_cell (tmps : Array Value) (a : Tmp) (t : TypeId) : resOf tmps (.cell a t) = (do loadVar t (← asAddr (tmps.getD a Go.undef))) := rfl
theorem results_eq (fn : Func) (tmps : Array Value) : results fn tmps = (do let vs ← fn.results.mapM (resOf tmps); pure (if h : vs.size = 1 then vs[0] else .tuple vs)) := by
  unfold results
  congr 1

theorem resA_run {A : Area} {ρ : Rho} {w : World} {tmps : Array Value} {τ : Fr} {h : H} (hr : HR E.G A ρ w (view h)) (hf : FRel (Forb A ρ (view h)) ρ w tmps τ) : ∀ {rs : List ResultVar} {ys : List AV}, resA E τ h rs = .ok ys →
    ∃ vs, (rs.mapM (resOf tmps)).run E.P w = .ok vs w ∧ CRs (Forb A ρ (view h)) ρ w vs ys
  | [], ys, hy => by cases hy; exact ⟨[], rfl, .nil⟩
  | .tmp t :: rs, ys, hy => by
    obtain ⟨us, hus, hy⟩ := R.bind_ok hy
    cases hy
    obtain ⟨vs, h1, h2⟩ := resA_run hr hf hus
    exact ⟨tmps.getD t Go.undef :: vs, by simp only [List.mapM_cons, Sem.run_bind, resOf_tmp, Sem.run_pure, Result.andThen_ok, h1], .cons (hf t) h2⟩
  | .cell b t :: rs, ys, hy => by
    obtain ⟨u, hu, hy⟩ := R.bind_ok hy
    obtain ⟨us, hus, hy⟩ := R.bind_ok hy
    cases hy
    obtain ⟨vs, h1, h2⟩ := resA_run hr hf hus
    obtain ⟨r, h3, h4⟩ := loadA_run (P := E.P) hu hr (fun _ _ => rfl) (hf b)
    obtain ⟨ad, had⟩ := loadA_addr hu (hf b)
    rw [had] at h3
    have h5 : (loadVar t ad).run E.P w = .ok r w := by simpa [Instr.loadAt, Instr.sureAddr] using h3
    refine ⟨r :: vs, ?_, .cons h4 h2⟩
    rw [List.mapM_cons]
    have h6 : (asAddr (tmps.getD b Go.undef)).run E.P w = .ok ad w := by rw [had]; rfl
    simp only [resOf_cell, Sem.run_bind, h6, Sem.run_pure, Result.andThen_ok, h5, h1]

theorem init_frame {F : Area} {ρ : Rho} {w : World} {vs : Array Value} {args : List AV} (h : CRs F ρ w vs.toList args) (n : Nat) : FRel F ρ w (vs ++ Array.replicate (n - vs.size) Go.undef) (initFr args) := by
  intro i
  have hl : vs.size = args.length := by simpa using h.1
  simp only [initFr, Array.getD_eq_getD_getElem?, List.getD_eq_getElem?_getD]
  rcases Nat.lt_or_ge i vs.size with hi | hi
  · rw [Array.getElem?_append_left hi]
    have h1 : args[i]? = some args[i] := List.getElem?_eq_getElem (by omega)
    obtain ⟨v, hv, hc⟩ := h.get h1
    rw [Array.getElem?_toList] at hv
    rw [h1, hv]; exact hc
  · rw [Array.getElem?_append_right hi, List.getElem?_eq_none (by omega)]
    have : ((Array.replicate (n - vs.size) Go.undef)[i - vs.size]?).getD Go.undef = Go.undef := by
      rw [Array.getElem?_replicate]; split <;> rfl
    rw [this]; exact undef_cr

theorem acall_ok (hS : Smet E.P E.S) (hC : COK E) (hmix : E.P.follows .mixedOrders = true) : ∀ n, CallOK E (acall E n) := by
  intro n
  induction n with
  | zero => intro f args h r h' hc; cases hc
  | succ n ih =>
    intro f args h r h' hc A ρ w vs hr hargs
    simp only [acall] at hc
    cases hfn : E.P.funcs[f]? with
    | none => simp [hfn] at hc
    | some fn =>
      simp only [hfn] at hc
      cases hb : fn.body with
      | none => simp [hb] at hc
      | some c =>
        simp only [hb] at hc
        split at hc
        · cases hc
        · rename_i hname
          refine ⟨fun W => ?_, ?_⟩
          · unfold callFunc
            simp only [Sem.run_bind, run_program, Result.andThen_ok, hfn]
            rw [if_neg hname]
            simp [hb]
          · cases he : exec E f (acall E n) (max fn.ntmps args.length) c (initFr args) h with
            | no s => rw [he] at hc; cases hc
            | ok res =>
              obtain ⟨x, τ, h1⟩ := res
              have hl : vs.size = args.length := by simpa using hargs.1
              have hst : St E A ρ w { tmps := vs ++ Array.replicate (fn.ntmps - vs.size) Go.undef, defers := [] } (initFr args) (view h) (max fn.ntmps args.length) :=
                ⟨hr, init_frame hargs fn.ntmps, by simp; omega, rfl⟩
              have hw := exec_wp hS hC ih hmix c (initFr args) h x τ h1 ρ w _ he hst
              rw [he] at hc
              refine calls_of_wp hfn hb (wp_mono hw ?_)
              rintro e a' w' ⟨rfl, ρ', hx, hst'⟩
              have fin : ∀ {r0 : AV × H}, ((resA E τ h1 fn.results.toList).bind fun vs => R.ok (match vs with | [v] => v | vs => .tup vs, h1)) = R.ok r0 →
                  ∃ v, (results fn a'.tmps).run E.P w' = .ok v w' ∧ (∃ ρ', Ext (Own ρ (view h)) ρ w (Own ρ' (view h1)) ρ' w' ∧ HR E.G A ρ' w' (view h1) ∧ CR (Forb A ρ' (view h1)) ρ' w' v r0.1) ∧ r0.2 = h1 := by
                intro r0 hc
                obtain ⟨ys, hys, hc⟩ := R.bind_ok hc
                cases hc
                obtain ⟨us, h2, h3⟩ := resA_run hst'.hr hst'.fr hys
                refine ⟨if h : us.length = 1 then us[0] else .tuple us.toArray, ?_, ⟨ρ', hx, hst'.hr, ?_⟩, rfl⟩
                · rw [results_eq, Sem.run_bind, Array.mapM_eq_mapM_toList, Sem.run_map, h2]
                  simp only [Result.andThen_ok, Sem.run_pure]
                  congr 1
                · cases ys with
                  | nil =>
                    obtain rfl := List.eq_nil_of_length_eq_zero h3.1
                    exact .tup_of .nil
                  | cons y ys =>
                    cases us with
                    | nil => have := h3.1; simp at this
                    | cons u us =>
                      cases ys with
                      | nil =>
                        obtain rfl : us = [] := by have := h3.1; simpa using this
                        simpa using h3.head
                      | cons y2 ys =>
                        have hlen : ¬ (u :: us).length = 1 := by have := h3.1; simp at this ⊢; intro e; simp [e] at this
                        rw [dif_neg hlen]
                        exact .tup_of (by simpa using h3)
              cases x with
              | normal =>
                simp only at hc
                obtain ⟨v, k1, ⟨ρ2, k2, k3, k4⟩, k5⟩ := fin hc
                obtain rfl : h' = h1 := k5
                exact ⟨hst'.de, v, k1, v, ρ2, rfl, k2, k3, k4⟩
              | ret =>
                simp only at hc
                obtain ⟨v, k1, ⟨ρ2, k2, k3, k4⟩, k5⟩ := fin hc
                obtain rfl : h' = h1 := k5
                exact ⟨hst'.de, v, k1, v, ρ2, rfl, k2, k3, k4⟩
              | exit i => cases hc
end
end Go.Proofs.YthfkkflogbibfaaGreatDoor.AM
