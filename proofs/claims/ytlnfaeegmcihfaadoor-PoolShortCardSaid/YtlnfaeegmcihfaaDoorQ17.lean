-- Written by the program wip/tools/mp.py of this work, which drives the print of the kit; hand texts of this session among it.
import Derived.Test.YtlnfaeegmcihfaaDoorQ0
import Derived.Test.YtlnfaeegmcihfaaDoorQ12
import Derived.Test.YtlnfaeegmcihfaaDoorQ15
import Derived.Test.YtlnfaeegmcihfaaDoorQ16
namespace Go.Proofs.YtlnfaeegmcihfaaDoor.Q
open Go.RowKit Go.Proofs.HW Go.Proofs.YtlnfaeegmcihfaaDoorW.PrintWords Go.Proofs.YtlnfaeegmcihfaaDoorW.PrintLast
set_option linter.unusedVariables false
set_option linter.unusedSimpArgs false

-- HANDTEXT
/-! ### pool_lay: function 64, by hand -/
-- NEEDS hornbook/bin.Put
-- NEEDS hornbook/bin.Text
-- NEEDS hornbook/pool.texts
def pool_lay.go : List Int → List ByteArray → Option (List Int)
  | b, [] => some b
  | b, s :: ss => (bin_Text.f b s).bind fun b2 => pool_lay.go b2 ss
def pool_lay.f (k : Nat) (l0 : List Int) (a1_0 : Int) (a1_1 : Int) (a1_2 : ByteArray) (a1_3 : ByteArray) (a1_4 : ByteArray) : Option (List Int) :=
  (bin_Put.f l0 a1_0).bind fun b =>
    if a1_0 = 1 then bin_Put.f b a1_1
    else (pool_texts.f k a1_0).bind fun m => if 0 ≤ m ∧ m ≤ 3 then pool_lay.go b ([a1_2, a1_3, a1_4].take m.toNat) else none
theorem pool_lay.mono (l0 : List Int) (a1_0 : Int) (a1_1 : Int) (a1_2 : ByteArray) (a1_3 : ByteArray) (a1_4 : ByteArray) (k : Nat) : LeO (pool_lay.f k l0 a1_0 a1_1 a1_2 a1_3 a1_4) (pool_lay.f (k + 1) l0 a1_0 a1_1 a1_2 a1_3 a1_4) := by
  intro r h
  unfold pool_lay.f at h ⊢
  cases hb : bin_Put.f l0 a1_0 with
  | none => rw [hb] at h; cases h
  | some b =>
    rw [hb] at h
    simp only [Option.bind_some] at h ⊢
    split
    · rename_i h1; rw [if_pos h1] at h; exact h
    · rename_i h1
      rw [if_neg h1] at h
      cases ht : pool_texts.f k a1_0 with
      | none => rw [ht] at h; cases h
      | some m =>
        rw [ht] at h
        rw [pool_texts.mono a1_0 k m ht]
        exact h
structure pool_lay.Inv (s t u : ByteArray) (q : Nat) (r : List Int) (w : World) (g : Nat) (v0 v31 : Value) (wr : World) : Prop where
  mk :: (out : ∃ (i : Nat) (b : List Int) (A : Option Addr) (c : Nat), v0 = .slice A b.length c ∧ v31 = .int .i64 i ∧ Kd.R (Kd.int .u8) 5 wr w.heap.size (fun _ => True) (.slice A b.length c) b ∧ i ≤ q ∧ pool_lay.go b (([s, t, u].take q).drop i) = some r ∧ Below w.heap.size w wr ∧ wr.heap[g]? = some (.cells #[.string s, .string t, .string u] 99 (0, 0)))
set_option maxRecDepth 100000 in
theorem pool_lay.calls (k : Nat) (A0 : Option Addr) (c0 : Nat) (l0 : List Int) (a1_0 : Int) (a1_1 : Int) (a1_2 : ByteArray) (a1_3 : ByteArray) (a1_4 : ByteArray) (r : List Int) (w : World) (hr0 : Kd.C (Kd.int .u8) w A0 l0.length l0) (hc0 : l0.length ≤ c0) (h : pool_lay.f k l0 a1_0 a1_1 a1_2 a1_3 a1_4 = some r) :
    Calls Tryd.prog 64 #[.slice A0 l0.length c0, .agg #[.int .i64 a1_0, .int .i64 a1_1, .string a1_2, .string a1_3, .string a1_4]] w fun e w' => ∃ v0_ : Value, e = .returned (v0_) ∧ Kd.R (Kd.int .u8) 5 w' w.heap.size (fun _ => True) v0_ r ∧ Below w.heap.size w w' := by
  have HR0 := Aside0.mk hr0
  have HC0 := Aside0.mk hc0
  unfold pool_lay.f at h
  obtain ⟨b, hb, h⟩ := Option.bind_eq_some_iff.1 h
  have HPB := Aside0.mk hb
  have H := Aside0.mk h
  clear hr0 hc0 hb h
  go_enter Tryd.func64, Tryd.ntmps64
  go_wp2_with fail
  refine (bin_Put.calls A0 c0 l0 a1_0 b _ (Kd.C_alloc HR0.out _) HC0.out HPB.out).mono ?_
  rintro e w1 ⟨v1, rfl, hR, hbel⟩
  have hbk := (hbel.block w.heap.size (by simp)).trans (heap_alloc_last w _)
  have HB1 := Aside0.mk (below_step (below_alloc (Below.refl _ _) _) hbel)
  have hcl0 := (blk_cell hbk 0).trans rfl
  have hcl1 := (blk_cell hbk 1).trans rfl
  have hcl2 := (blk_cell hbk 2).trans rfl
  have hcl3 := (blk_cell hbk 3).trans rfl
  have hcl4 := (blk_cell hbk 4).trans rfl
  obtain ⟨A1, c1, rfl, hl1, hC1⟩ := Kd.R_reads hR
  have HC1 := Aside0.mk hC1
  have HL1 := Aside0.mk hl1
  have HRR := Aside0.mk hR
  have HBK := Aside0.mk hbk
  clear hbel hC1 hl1 hR hbk
  by_cases hk1 : a1_0 = 1
  · have h1 := H.out
    rw [if_pos hk1] at h1
    have H1 := Aside0.mk h1
    clear h1 H
    subst hk1
    go_wp2_with fail
    refine (bin_Put.calls A1 c1 b a1_1 r _ HC1.out HL1.out H1.out).mono ?_
    rintro e w2 ⟨v2, rfl, hR2, hb2⟩
    have HR2 := Aside0.mk hR2
    have HB2 := Aside0.mk (below_step HB1.out hb2)
    clear hR2 hb2 hcl0 hcl1 hcl2 hcl3 hcl4
    go_wp2_with fail
    go_ret
    exact ⟨_, rfl, Kd.R_lower HR2.out HB1.out.size, HB2.out⟩
  · have h1 := H.out
    rw [if_neg hk1] at h1
    obtain ⟨m, hm, h2⟩ := Option.bind_eq_some_iff.1 h1
    by_cases hm3 : 0 ≤ m ∧ m ≤ 3
    case neg => rw [if_neg hm3] at h2; cases h2
    rw [if_pos hm3] at h2
    have HM := Aside0.mk hm
    have H1 := Aside0.mk h2
    clear H h1 h2 hm
    obtain ⟨q, rfl⟩ := Int.eq_ofNat_of_zero_le hm3.1
    have hq : q ≤ 3 := by omega
    clear hm3
    have hca : ∀ o, (w1.alloc o).cell? ⟨w.heap.size, 0, none⟩ = some (.int .i64 a1_0) := fun o => (World.cell?_alloc_lt _ _ _ (World.block_lt_of_cell? w1 _ hcl0)).trans hcl0
    go_wp2_with fail
    refine (pool_texts.calls k a1_0 q _ HM.out).mono ?_
    rintro e w2 ⟨rfl, ⟨n1, rfl⟩⟩
    have hcut : ∀ W : World, (Instr.sliceAt 99 (.pointer (some ⟨w1.heap.size, 0, none⟩)) none (some (.int .i64 (q : Int))) none).run Tryd.prog W = .ok (.slice (some ⟨w1.heap.size, 0, none⟩) q 3) W := fun W => run_sliceAt_to (e := 9) W (by kernel_rfl) (by kernel_rfl) (by omega)
    have HG := Aside0.mk (show ((w1.alloc (.cells #[.string a1_2, .string a1_3, .string a1_4] 99)).drewN n1).heap[w1.heap.size]? = some (.cells #[.string a1_2, .string a1_3, .string a1_4] 99 (0, 0)) from heap_alloc_last _ _)
    have HB2 := Aside0.mk (show Below w.heap.size w ((w1.alloc (.cells #[.string a1_2, .string a1_3, .string a1_4] 99)).drewN n1) from pw_below_drewN (below_alloc HB1.out _) n1)
    have HR2 := Aside0.mk (show Kd.R (Kd.int .u8) 5 ((w1.alloc (.cells #[.string a1_2, .string a1_3, .string a1_4] 99)).drewN n1) w.heap.size (fun _ => True) (.slice A1 b.length c1) b from Kd.R_drewN (Kd.R_alloc (Kd.R_lower HRR.out (by simp)) _) n1)
    go_wp2_with fail
    go_loopw [0, 31] (fun v0 v31 wr => pool_lay.Inv a1_2 a1_3 a1_4 q r w w1.heap.size v0 v31 wr) (fun v0 v31 wr => (q - (intOf v31).toNat))
    case atStart => exact ⟨0, b, A1, c1, rfl, rfl, HR2.out, by omega, by simpa using H1.out, HB2.out, HG.out⟩
    case round =>
      obtain ⟨i, b2, A2, c2, rfl, rfl, hR, hi, hgo, hB, hG⟩ := hrel.out
      clear hcl0 hcl1 hcl2 hcl3 hcl4 hca hcut
      by_cases hlt : i < q
      · have hi3 : i < ([a1_2, a1_3, a1_4] : List ByteArray).length := by simp; omega
        have hs : wr.cell? ⟨w1.heap.size, i, none⟩ = some (.string ([a1_2, a1_3, a1_4][i]'hi3)) := by
          rw [blk_cell hG i]
          have : i = 0 ∨ i = 1 ∨ i = 2 := by omega
          rcases this with rfl | rfl | rfl <;> rfl
        have hd : ([a1_2, a1_3, a1_4].take q).drop i = [a1_2, a1_3, a1_4][i]'hi3 :: ([a1_2, a1_3, a1_4].take q).drop (i + 1) := by
          have hl : i < ([a1_2, a1_3, a1_4].take q).length := by rw [List.length_take]; omega
          rw [List.drop_eq_getElem_cons hl, List.getElem_take]
        generalize [a1_2, a1_3, a1_4][i]'hi3 = s at hs hd
        rw [hd] at hgo
        obtain ⟨b3, hb3, hgo2⟩ := Option.bind_eq_some_iff.1 hgo
        obtain ⟨A3, c3, he, hl2, hC2⟩ := Kd.R_reads hR
        simp only [Value.slice.injEq] at he
        obtain ⟨rfl, _, rfl⟩ := he
        have HT := Aside0.mk hb3
        have HGO := Aside0.mk hgo2
        have HRL := Aside0.mk hR
        have HBL := Aside0.mk hB
        have HGL := Aside0.mk hG
        have HC2 := Aside0.mk hC2
        have HL2 := Aside0.mk hl2
        clear hb3 hgo2 hgo hR hB hG hC2 hl2 hd
        go_wp2_with fail
        refine (bin_Text.calls A2 c2 b2 s b3 _ HC2.out HL2.out HT.out).mono ?_
        rintro e w3 ⟨v3, rfl, hR3, hb3⟩
        obtain ⟨A4, c4, rfl, hl4, hC4⟩ := Kd.R_reads hR3
        have HR3 := Aside0.mk hR3
        have HB3 := Aside0.mk hb3
        clear hR3 hb3 hl4 hC4 hs
        go_wp2_with fail
        go_roundw
        case rel => exact ⟨i + 1, b3, A4, c4, rfl, by push_cast; rfl, Kd.R_lower HR3.out HBL.out.size, by omega, HGO.out, below_step HBL.out HB3.out, (HB3.out.block _ (blk_lt HGL.out)).trans HGL.out⟩
        case measure => simp [intOf]; omega
      · have : ([a1_2, a1_3, a1_4].take q).drop i = [] := List.drop_eq_nil_of_le (by rw [List.length_take]; omega)
        rw [this] at hgo
        obtain rfl := Option.some.inj hgo
        have HRL := Aside0.mk hR
        have HBL := Aside0.mk hB
        clear hgo hR hB hG this
        go_wp2_with fail
        go_ret
        exact ⟨_, rfl, HRL.out, HBL.out⟩

end Go.Proofs.YtlnfaeegmcihfaaDoor.Q
