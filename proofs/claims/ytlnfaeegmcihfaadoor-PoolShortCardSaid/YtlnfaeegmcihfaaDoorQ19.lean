-- Written by the program wip/tools/mp.py of this work, which drives the print of the kit; hand texts of this session among it.
import Derived.Test.YtlnfaeegmcihfaaDoorQ0
import Derived.Test.YtlnfaeegmcihfaaDoorQ11
import Derived.Test.YtlnfaeegmcihfaaDoorQ18
namespace Go.Proofs.YtlnfaeegmcihfaaDoor.Q
open Go.RowKit Go.Proofs.HW Go.Proofs.YtlnfaeegmcihfaaDoorW.PrintWords Go.Proofs.YtlnfaeegmcihfaaDoorW.PrintLast
set_option linter.unusedVariables false
set_option linter.unusedSimpArgs false

-- HANDTEXT
/-! ### hornbooklaw03_known: function 28, by hand -/
-- NEEDS hornbook/pool.Put
-- NEEDS hornbook/pool.Names
-- NEEDS hornbook/pool.Add
def hornbooklaw03_known.holds (k : Nat) : Prop :=
  pool_Put.f k [] 1 5 ⟨#[]⟩ ⟨#[]⟩ ⟨#[]⟩ = some ([2, 10], 0) ∧
  pool_Names.f k 5 0 ⟨#[65]⟩ ⟨#[109]⟩ ⟨#[40, 76, 66, 59, 41, 91, 91, 76, 67, 59]⟩ = some [⟨#[65]⟩, ⟨#[66]⟩, ⟨#[67]⟩] ∧
  pool_Add.f k [] 2 0 ⟨#[120]⟩ ⟨#[]⟩ ⟨#[]⟩ = some ([⟨2, 0, ⟨#[120]⟩, ⟨#[]⟩, ⟨#[]⟩⟩], 0, 0)
open Classical in
noncomputable def hornbooklaw03_known.f (k : Nat) : Option Bool := if hornbooklaw03_known.holds k then some true else none
theorem hornbooklaw03_known.mono (k : Nat) : LeO (hornbooklaw03_known.f k) (hornbooklaw03_known.f (k + 1)) := by
  intro r h
  unfold hornbooklaw03_known.f at h ⊢
  split at h
  · rename_i hh
    obtain ⟨h1, h2, h3⟩ := hh
    have h4 : hornbooklaw03_known.holds (k + 1) := ⟨pool_Put.mono _ _ _ _ _ _ _ _ h1, pool_Names.mono _ _ _ _ _ _ _ h2, pool_Add.mono _ _ _ _ _ _ _ _ h3⟩
    rw [if_pos h4]
    exact h
  · cases h
set_option maxHeartbeats 8000000 in
set_option maxRecDepth 100000 in
theorem hornbooklaw03_known.calls (k : Nat) (r : Bool) (w : World) (h : hornbooklaw03_known.f k = some r) :
    Calls Tryd.prog 28 #[] w fun e w' => e = .returned (.bool r) ∧ Below w.heap.size w w' := by
  unfold hornbooklaw03_known.f at h
  split at h
  case isFalse => cases h
  rename_i hh
  obtain rfl := Option.some.inj h
  obtain ⟨h1, h2, h3⟩ := hh
  have H1 := Aside0.mk h1
  have H2 := Aside0.mk h2
  have H3 := Aside0.mk h3
  clear h h1 h2 h3
  go_enter Tryd.func28, Tryd.ntmps28
  go_wp2_with fail
  refine (pool_Put.calls k none 0 [] 1 5 _ _ _ [2, 10] 0 _ (Kd.C_nil _ _) (Nat.le_refl _) H1.out).mono ?_
  rintro e w1 ⟨v1, rfl, hR1, hb1⟩
  obtain ⟨A1, c1, rfl, hl1, hC1⟩ := Kd.R_reads hR1
  have HC1 := Aside0.mk hC1
  have HB1 := Aside0.mk hb1
  clear hR1 hC1 hb1
  go_wp2_with fail
  refine (pool_Names.calls k _ _ _ _ _ [⟨#[65]⟩, ⟨#[66]⟩, ⟨#[67]⟩] _ H2.out).mono ?_
  rintro e w2 ⟨v2, rfl, hR2, hb2⟩
  obtain ⟨A2, c2, rfl, hl2, hC2⟩ := Kd.R_reads hR2
  have HC2 := Aside0.mk hC2
  have HB2 := Aside0.mk (below_step HB1.out hb2)
  have HC1' := Aside0.mk (Kd.C_below HC1.out hb2)
  clear hR2 hC2 hb2
  go_wp2_with fail
  refine (pool_Add.calls k none 0 [] _ _ _ _ _ _ _ _ _ (Kd.C_nil _ _) (Nat.le_refl _) H3.out).mono ?_
  rintro e w3 ⟨A3, c3, rfl, hl3, hC3, hb3⟩
  have HB3 := Aside0.mk (below_step HB2.out hb3)
  obtain ⟨b, o, rfl, hbb, hcells⟩ := cells_of_C (Kd.C_below HC2.out hb3) (by decide)
  have hc0 := hcells 0 _ rfl
  rw [Nat.add_zero] at hc0
  have hc2 := hcells 2 _ rfl
  have hcv : (convert 45 9 (.slice A1 2 c1)).run Tryd.prog w3 = .ok (.string ⟨#[2, 10]⟩) w3 := Kd.C_string (P := Tryd.prog) (A := A1) (c := c1) Tryd.underlying45 Tryd.underlying5 Tryd.underlying9 (Kd.C_below HC1'.out hb3)
  clear hC3 hb3 hcells
  go_wp2_with fail
  go_ret
  exact ⟨rfl, HB3.out⟩

end Go.Proofs.YtlnfaeegmcihfaaDoor.Q
