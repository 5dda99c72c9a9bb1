-- Written by the program wip/tools/mp.py of this work, which drives the print of the kit; hand texts of this session among it.
import Derived.Test.YtlnfaeegmcihfaaDoorQ0
import Derived.Test.YtlnfaeegmcihfaaDoorQ1
import Derived.Test.YtlnfaeegmcihfaaDoorQ18
import Derived.Test.YtlnfaeegmcihfaaDoorQ19
import Derived.Test.YtlnfaeegmcihfaaDoorQ24
namespace Go.Proofs.YtlnfaeegmcihfaaDoor.Q
open Go.RowKit Go.Proofs.HW Go.Proofs.YtlnfaeegmcihfaaDoorW.PrintWords Go.Proofs.YtlnfaeegmcihfaaDoorW.PrintLast
set_option linter.unusedVariables false
set_option linter.unusedSimpArgs false

-- HANDTEXT
/-! ### hornbooklaw03_PoolShort: function 10, by hand -/
-- NEEDS hornbook/pool.Put
-- NEEDS hornbook/pool.Get
-- NEEDS hornbook/hornbooklaw03.known
-- NEEDS slices.Index[[]hornbook/api.Const,hornbook/api.Const]
attribute [local go_sem high] eqA40
noncomputable def hornbooklaw03_PoolShort.f (k : Nat) (a0_0 : Int) (a0_1 : Int) (a0_2 : ByteArray) (a0_3 : ByteArray) (a0_4 : ByteArray) : Option (Bool) :=
  (pool_Put.f k [] a0_0 a0_1 a0_2 a0_3 a0_4).bind fun p =>
    if p.2 = 11 then hornbooklaw03_known.f k
    else if p.2 = 0 ∧ 1 ≤ p.1.length then (pool_Get.f k (p.1.take (p.1.length - 1)) 0).bind fun g =>
      if g = (0, 0, ⟨#[]⟩, ⟨#[]⟩, ⟨#[]⟩, 0, 4) then hornbooklaw03_known.f k else none
    else none
set_option maxHeartbeats 8000000 in
set_option maxRecDepth 100000 in
theorem hornbooklaw03_PoolShort.calls (k : Nat) (a0_0 : Int) (a0_1 : Int) (a0_2 : ByteArray) (a0_3 : ByteArray) (a0_4 : ByteArray) (r : Bool) (w : World) (h : hornbooklaw03_PoolShort.f k a0_0 a0_1 a0_2 a0_3 a0_4 = some r) :
    Calls Tryd.prog 10 #[.agg #[.int .i64 a0_0, .int .i64 a0_1, .string a0_2, .string a0_3, .string a0_4]] w fun e w' => e = .returned (.bool r) ∧ Below w.heap.size w w' := by
  have hu40 := Tryd.underlying40
  unfold hornbooklaw03_PoolShort.f at h
  obtain ⟨⟨p1, p2⟩, hp, h⟩ := Option.bind_eq_some_iff.1 h
  simp only at h
  have HP := Aside0.mk hp
  have H := Aside0.mk h
  clear h hp
  go_enter Tryd.func10, Tryd.ntmps10
  go_wp2_with fail
  refine (pool_Put.calls k none 0 [] a0_0 a0_1 a0_2 a0_3 a0_4 p1 p2 _ (Kd.C_nil _ _) (Nat.le_refl _) HP.out).mono ?_
  rintro e w1 ⟨v1, rfl, hR1, hb1⟩
  obtain ⟨A1, c1, rfl, hl1, hC1⟩ := Kd.R_reads hR1
  have HC1 := Aside0.mk hC1
  have HL1 := Aside0.mk hl1
  have HB1 := Aside0.mk (below_step (below_alloc (Below.refl _ _) _) hb1)
  clear hR1 hC1 hb1 hl1
  by_cases h11 : p2 = 11
  · have hk := H.out
    rw [if_pos h11] at hk
    have HK := Aside0.mk hk
    clear H hk
    subst h11
    go_wp2_with fail
    refine (hornbooklaw03_known.calls k r _ HK.out).mono ?_
    rintro e w2 ⟨rfl, hb2⟩
    have HB2 := Aside0.mk (below_step HB1.out hb2)
    clear hb2
    go_wp2_with fail
    go_ret
    exact ⟨rfl, HB2.out⟩
  have hk := H.out
  rw [if_neg h11] at hk
  by_cases h0 : p2 = 0 ∧ 1 ≤ p1.length
  case neg => rw [if_neg h0] at hk; cases hk
  rw [if_pos h0] at hk
  obtain ⟨g, hg, hk⟩ := Option.bind_eq_some_iff.1 hk
  obtain ⟨rfl, hlen⟩ := h0
  by_cases hgz : g = (0, 0, ⟨#[]⟩, ⟨#[]⟩, ⟨#[]⟩, 0, 4)
  case neg => rw [if_neg hgz] at hk; cases hk
  rw [if_pos hgz] at hk
  subst hgz
  have HG := Aside0.mk hg
  have HK := Aside0.mk hk
  obtain ⟨i5, hi5, hs5⟩ := Option.map_eq_some_iff.1 (show (Tryd.prog.info? 5).map (fun i => i.size) = some 1 by kernel_rfl)
  have hmx : p1.length ≤ 9223372036854775807 := HC1.out.2.1
  have htl : (p1.take (p1.length - 1)).length = p1.length - 1 := by rw [List.length_take]; omega
  have hcut := cut_to (P := Tryd.prog) 45 5 .i64 (by kernel_rfl) hi5 A1 p1.length c1 ((p1.length : Int) - 1) (by omega) (by omega) HL1.out
  rw [show ((p1.length : Int) - 1).toNat = p1.length - 1 by omega, ← htl] at hcut
  have HCT := Aside0.mk (Kd.C_take HC1.out (show p1.length - 1 ≤ p1.length by omega))
  have hwk : IntKind.i64.wrap ((p1.length : Int) - 1) = (p1.length : Int) - 1 := by rw [IntKind.wrap_i64]; omega
  have HLT := Aside0.mk (show (p1.take (p1.length - 1)).length ≤ c1 by have := HL1.out; omega)
  have HG' := HG
  clear hk hg H hi5 hs5 h11 htl HG
  generalize p1.take (p1.length - 1) = ts at *
  go_wp2_with fail
  refine (pool_Get.calls k A1 c1 ts 0 0 0 ⟨#[]⟩ ⟨#[]⟩ ⟨#[]⟩ 0 4 _ (Kd.C_alloc HCT.out _) HLT.out HG'.out).mono ?_
  rintro e w2 ⟨rfl, hb2⟩
  have hg2 := (hb2.block w1.heap.size (by simp)).trans (heap_alloc_last w1 _)
  have HG2 := Aside0.mk hg2
  have HB2 := Aside0.mk (below_step (below_alloc HB1.out _) hb2)
  have hlt := blk_lt hg2
  have hc0 : ∀ o, (w2.alloc o).cell? ⟨w1.heap.size, 0, none⟩ = some (.int .i64 0) := fun o => (blk_cell ((Below.heap_alloc _ _ _ hlt).trans HG2.out) 0).trans rfl
  have hc1 : ∀ o, (w2.alloc o).cell? ⟨w1.heap.size, 1, none⟩ = some (.int .i64 0) := fun o => (blk_cell ((Below.heap_alloc _ _ _ hlt).trans HG2.out) 1).trans rfl
  have hc2 : ∀ o, (w2.alloc o).cell? ⟨w1.heap.size, 2, none⟩ = some (.string ⟨#[]⟩) := fun o => (blk_cell ((Below.heap_alloc _ _ _ hlt).trans HG2.out) 2).trans rfl
  have hc3 : ∀ o, (w2.alloc o).cell? ⟨w1.heap.size, 3, none⟩ = some (.string ⟨#[]⟩) := fun o => (blk_cell ((Below.heap_alloc _ _ _ hlt).trans HG2.out) 3).trans rfl
  have hc4 : ∀ o, (w2.alloc o).cell? ⟨w1.heap.size, 4, none⟩ = some (.string ⟨#[]⟩) := fun o => (blk_cell ((Below.heap_alloc _ _ _ hlt).trans HG2.out) 4).trans rfl
  clear hb2 hg2 hcut
  go_wp2_with fail
  refine (hornbooklaw03_known.calls k r _ HK.out).mono ?_
  rintro e w3 ⟨rfl, hb3⟩
  have HB3 := Aside0.mk (below_step (below_alloc HB2.out _) hb3)
  clear hb3 hc0 hc1 hc2 hc3 hc4
  go_wp2_with fail
  go_ret
  exact ⟨rfl, HB3.out⟩

end Go.Proofs.YtlnfaeegmcihfaaDoor.Q
