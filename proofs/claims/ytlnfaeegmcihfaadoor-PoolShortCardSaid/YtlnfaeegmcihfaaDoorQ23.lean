-- Written by the program wip/tools/mp.py of this work, which drives the print of the kit; hand texts of this session among it.
import Derived.Test.YtlnfaeegmcihfaaDoorQ0
import Derived.Test.YtlnfaeegmcihfaaDoorQ22
namespace Go.Proofs.YtlnfaeegmcihfaaDoor.Q
open Go.RowKit Go.Proofs.HW Go.Proofs.YtlnfaeegmcihfaaDoorW.PrintWords Go.Proofs.YtlnfaeegmcihfaaDoorW.PrintLast
set_option linter.unusedVariables false
set_option linter.unusedSimpArgs false

attribute [-simp] List.length_drop List.length_take
/-! ### bin_GetText: function 74 -/
def bin_GetText.j0 : Nat → List Int → Int → Int → Bool → Option (ByteArray × Int × Int)
  | 0, _, _, _, _ => none
  | k + 1, x0, x1, x9, x23 => if x23 = true then (some ((⟨#[]⟩ : ByteArray), 0, 6)) else (if x9 > (wrap64 ((x0.length : Int) - x1)) then (some ((⟨#[]⟩ : ByteArray), 0, 4)) else (if 0 ≤ x1 then (if x1 ≤ (wrap64 (x1 + x9)) then (if (wrap64 (x1 + x9)) ≤ (x0.length : Int) then (some (strOfNums ((x0.take ((wrap64 (x1 + x9)) : Int).toNat).drop (x1 : Int).toNat), wrap64 (x1 + x9), 0)) else (none)) else (none)) else (none)))
def bin_GetText.f (k : Nat) (l0 : List Int) (a1 : Int) (a2 : Int) : Option (ByteArray × Int × Int) := (bin_Get.f l0 a1).bind fun bt287 => (if bt287.2.2 = 0 then (if bt287.1 < 0 then (bin_GetText.j0 k l0 bt287.2.1 bt287.1 true) else (bin_GetText.j0 k l0 bt287.2.1 bt287.1 (decide (bt287.1 > a2)))) else (some ((⟨#[]⟩ : ByteArray), 0, bt287.2.2)))
theorem bin_GetText.mono_l : ∀ k, (∀ y0 y1 y2 y3, LeO (bin_GetText.j0 k y0 y1 y2 y3) (bin_GetText.j0 (k + 1) y0 y1 y2 y3))
  | 0 => fun _ _ _ _ r h => by simp [bin_GetText.j0] at h
  | k + 1 => by
    have ih0 := bin_GetText.mono_l k
    · intro y0 y1 y2 y3
      unfold bin_GetText.j0
      repeat' first
      | (with_reducible exact ih0 _ _ _ _)
      | (with_reducible exact LeO.refl _)
      | (with_reducible exact LeO.none _)
      | (with_reducible refine LeO.ite ?_ ?_)
      | (with_reducible refine LeO.bind ?_ (fun _ => ?_))
      | exact ih0 _ _ _ _
      | exact LeO.none _
      | refine LeO.ite ?_ ?_
      | refine LeO.bind ?_ (fun _ => ?_)
theorem bin_GetText.mono : ∀ a0 a1 a2 k, LeO (bin_GetText.f k a0 a1 a2) (bin_GetText.f (k + 1) a0 a1 a2) := by
  intro a0 a1 a2 k
  have ih0 := bin_GetText.mono_l k
  unfold bin_GetText.f
  repeat' first
      | (with_reducible exact ih0 _ _ _ _)
      | (with_reducible exact LeO.refl _)
      | (with_reducible exact LeO.none _)
      | (with_reducible refine LeO.ite ?_ ?_)
      | (with_reducible refine LeO.bind ?_ (fun _ => ?_))
      | exact ih0 _ _ _ _
      | exact LeO.none _
      | refine LeO.ite ?_ ?_
      | refine LeO.bind ?_ (fun _ => ?_)
set_option maxHeartbeats 8000000 in
set_option maxRecDepth 100000 in
theorem bin_GetText.calls (k : Nat) (A0 : Option Addr) (c0 : Nat) (l0 : List Int) (a1 : Int) (a2 : Int) (r1 : ByteArray) (r2 : Int) (r3 : Int) (w : World) (hr0 : Kd.C (Kd.int .u8) w A0 l0.length l0) (hc0 : l0.length ≤ c0) (h : bin_GetText.f k l0 a1 a2 = some (r1, r2, r3)) :
    Calls Tryd.prog 74 #[.slice A0 l0.length c0, .int .i64 a1, .int .i64 a2] w fun e w' => e = .returned (.tuple #[.string r1, .int .i64 r2, .int .i64 r3]) ∧ Below w.heap.size w w' := by
  have HR0 := Aside0.mk hr0
  have HC0 := Aside0.mk hc0
  clear hr0 hc0
  have HB := Aside0.mk (Below.refl w.heap.size w)
  have H : ((bin_Get.f l0 a1).bind fun bt287 => (if bt287.2.2 = 0 then (if bt287.1 < 0 then (bin_GetText.j0 k l0 bt287.2.1 bt287.1 true) else (bin_GetText.j0 k l0 bt287.2.1 bt287.1 (decide (bt287.1 > a2)))) else (some ((⟨#[]⟩ : ByteArray), 0, bt287.2.2)))) = some (r1, r2, r3) := h
  clear h
  replace H := Option.bind_eq_some_iff.mp H
  obtain ⟨⟨t287, t288, t289⟩, A40, H⟩ := H
  replace H : (if t289 = 0 then (if t287 < 0 then (bin_GetText.j0 k l0 t288 t287 true) else (bin_GetText.j0 k l0 t288 t287 (decide (t287 > a2)))) else (some ((⟨#[]⟩ : ByteArray), 0, t289))) = some (r1, r2, r3) := H
  have A4 := Aside0.mk A40
  clear A40
  by_cases c5 : t289 = 0
  · rw [if_pos c5] at H
    have c5b0 : (t289 == 0) = true := beq_iff_eq.mpr c5
    have c5b1 : (t289 != 0) = false := bne_eq_false_iff_eq.mpr c5
    clear c5
    have HC6 := Aside0.mk H
    clear H
    go_enter Tryd.func74, Tryd.ntmps74
    go_upto_region 4 with (first | ((with_reducible refine gate_callee (f := 72) rfl ?_); refine goesL_ (some 15) rfl rfl Tryd.func72 (by kernel_rfl) rfl #[.slice A0 l0.length c0, .int .i64 a1] rfl (by (try simp only [List.map_toArray, List.map_cons, List.map_nil]); first | done | rfl | (simp only [List.length_drop, List.length_take]; rfl)) ?_; (with_reducible refine (bin_Get.calls _ _ l0 a1 t287 t288 t289 _ ?side1 ?side2 A4.out).mono ?_); (case side1 => repeat (first | exact HR0.out | (with_reducible refine Kd.C_alloc ?_ _) | (with_reducible refine Kd.C_drewN ?_ _) | (with_reducible refine Kd.C_drew ?_))); (case side2 => exact HC0.out); rintro e w7 ⟨rfl, hb⟩; refine ⟨_, rfl, ?_⟩; have n0_ := Aside0.mk (below_step (by repeat (first | (with_reducible first | exact HB.out | apply below_alloc | apply pw_below_drewN | apply below_drew1) | exact HB.out)) hb); clear HB; have HB := n0_; clear n0_; (try clear hb); (try clear hb2); (try clear hk); (try clear hi)))
    (try simp only [Act.put, List.setIfInBounds_toArray, List.set_cons_zero, List.set_cons_succ])
    go_cut [23] (fun v23 wc => ∃ (kq : Nat) (x23_5 : Bool), v23 = .bool x23_5 ∧ Aside0 (bin_GetText.j0 kq l0 t288 t287 x23_5 = some (r1, r2, r3)) ∧ Aside0 (kq ≤ k) ∧ Aside0 (Below w.heap.size w wc))
    case first =>
      have H := HC6.out
      clear HC6
      by_cases c8 : t287 < 0
      · rw [if_pos c8] at H
        have c8b0 : decide (t287 < 0) = true := decide_eq_true c8
        clear c8
        (first | rw [c8b0] | (simp only [i64_w, i32_w]; rw [c8b0]) | skip)
        have H' := Aside0.mk H
        clear H
        go_wp2
        go_meet
        case rel => exact ⟨_, (true), (by first | rfl | (simp; done) | (simp [*]; done)), H', ⟨by first | omega | exact Nat.le_refl _⟩, ⟨by repeat (first | (with_reducible first | exact HB.out | apply below_alloc | apply pw_below_drewN | apply below_drew1) | exact HB.out)⟩⟩
      · rw [if_neg c8] at H
        have c8b0 : decide (t287 < 0) = false := decide_eq_false c8
        clear c8
        (first | rw [c8b0] | (simp only [i64_w, i32_w]; rw [c8b0]) | skip)
        have H' := Aside0.mk H
        clear H
        go_wp2
        go_meet
        case rel => exact ⟨_, (decide (t287 > a2)), (by first | rfl | (simp; done) | (simp [*]; done)), H', ⟨by first | omega | exact Nat.le_refl _⟩, ⟨by repeat (first | (with_reducible first | exact HB.out | apply below_alloc | apply pw_below_drewN | apply below_drew1) | exact HB.out)⟩⟩
    case rest =>
      clear HC6
      try clear p2
      try clear c5
      try clear c5b0
      try clear c5b1
      try clear c7
      try clear c8
      try clear c8b0
      obtain ⟨kq, x23_5, rfl, HA, HJ5, HB⟩ := hcut
      cases kq with
      | zero => exact absurd HA.out (by simp [bin_GetText.j0])
      | succ kj5 =>
        have H := HA.out
        clear HA
        simp only [bin_GetText.j0] at H
        by_cases c9 : x23_5 = true
        · subst c9
          have H1 : (some ((⟨#[]⟩ : ByteArray), 0, 6)) = some (r1, r2, r3) := by rw [if_pos rfl] at H; exact H
          clear H
          have H := H1
          clear H1
          simp only [Option.some.injEq, Prod.mk.injEq] at H
          obtain ⟨rfl, rfl, rfl⟩ := H
          go_wp2
          all_goals go_ret3
          all_goals exact ⟨by first | rfl | (simp [errW_none, errW_some] <;> rfl) | (simp [*, errW_none, errW_some] <;> rfl), by repeat (first | (with_reducible first | exact HB.out | apply below_alloc | apply pw_below_drewN | apply below_drew1) | exact HB.out)⟩
        · replace c9 := Bool.eq_false_iff.mpr c9
          subst c9
          have H1 : (if t287 > (wrap64 ((l0.length : Int) - t288)) then (some ((⟨#[]⟩ : ByteArray), 0, 4)) else (if 0 ≤ t288 then (if t288 ≤ (wrap64 (t288 + t287)) then (if (wrap64 (t288 + t287)) ≤ (l0.length : Int) then (some (strOfNums ((l0.take ((wrap64 (t288 + t287)) : Int).toNat).drop (t288 : Int).toNat), wrap64 (t288 + t287), 0)) else (none)) else (none)) else (none))) = some (r1, r2, r3) := by rw [if_neg (show ¬ (false = true) by decide)] at H; exact H
          clear H
          have H := H1
          clear H1
          by_cases c10 : t287 > (wrap64 ((l0.length : Int) - t288))
          · rw [if_pos c10] at H
            have c10b0 : decide ((wrap64 ((l0.length : Int) - t288)) < t287) = true := decide_eq_true c10
            clear c10
            simp only [Option.some.injEq, Prod.mk.injEq] at H
            obtain ⟨rfl, rfl, rfl⟩ := H
            go_wp2
            all_goals go_ret3
            all_goals exact ⟨by first | rfl | (simp [errW_none, errW_some] <;> rfl) | (simp [*, errW_none, errW_some] <;> rfl), by repeat (first | (with_reducible first | exact HB.out | apply below_alloc | apply pw_below_drewN | apply below_drew1) | exact HB.out)⟩
          · rw [if_neg c10] at H
            have c10b0 : decide ((wrap64 ((l0.length : Int) - t288)) < t287) = false := decide_eq_false c10
            clear c10
            by_cases c11 : 0 ≤ t288
            · rw [if_pos c11] at H
              have c11b0 := eq_true c11
              have c11b1 : decide (0 ≤ t288) = true := decide_eq_true c11
              clear c11
              by_cases c12 : t288 ≤ (wrap64 (t288 + t287))
              · rw [if_pos c12] at H
                have c12b0 := eq_true c12
                have c12b1 : decide (t288 ≤ (wrap64 (t288 + t287))) = true := decide_eq_true c12
                by_cases c13 : (wrap64 (t288 + t287)) ≤ (l0.length : Int)
                · rw [if_pos c13] at H
                  have c13b0 := eq_true c13
                  have c13b1 : decide ((wrap64 (t288 + t287)) ≤ (l0.length : Int)) = true := decide_eq_true c13
                  simp only [Option.some.injEq, Prod.mk.injEq] at H
                  obtain ⟨rfl, rfl, rfl⟩ := H
                  obtain ⟨i014, hi014, _, hsz14, _⟩ := info_parts info5
                  obtain ⟨A14, hcut14, hA14, hC14⟩ := print_mid_of (P := Tryd.prog) (Value.int .u8) 0 45 5 .i64 .i64 Tryd.underlying45 hi014 hsz14 A0 c0 l0 t288 (wrap64 (t288 + t287)) (of_decide_eq_true (by first | (with_reducible assumption) | assumption)) (by first | omega | exact of_decide_eq_true (by first | (with_reducible assumption) | assumption)) (of_decide_eq_true (by first | (with_reducible assumption) | assumption)) HC0.out
                  have HR290 := Aside0.mk (Kd.C_of_reads (h1 := fun _ => rfl) (hA14 _ (Kd.reads_of_C HR0.out)))
                  have HC290 := Aside0.mk hC14
                  clear hA14 hC14 hi014 hsz14
                  have hcv15 := Kd.C_string (P := Tryd.prog) (A := A14) (c := (c0 - t288.toNat)) Tryd.underlying45 Tryd.underlying5 Tryd.underlying9 (Kd.C_below HR290.out HB.out)
                  go_wp2
                  all_goals go_ret3
                  all_goals exact ⟨by first | rfl | (simp [errW_none, errW_some] <;> rfl) | (simp [*, errW_none, errW_some] <;> rfl), by repeat (first | (with_reducible first | exact HB.out | apply below_alloc | apply pw_below_drewN | apply below_drew1) | exact HB.out)⟩
                · rw [if_neg c13] at H
                  exact absurd H (by simp)
              · rw [if_neg c12] at H
                exact absurd H (by simp)
            · rw [if_neg c11] at H
              exact absurd H (by simp)
  · rw [if_neg c5] at H
    have c5b0 : (t289 == 0) = false := beq_eq_false_iff_ne.mpr c5
    have c5b1 : (t289 != 0) = true := bne_iff_ne.mpr c5
    simp only [Option.some.injEq, Prod.mk.injEq] at H
    obtain ⟨rfl, rfl, rfl⟩ := H
    go_enter Tryd.func74, Tryd.ntmps74
    go_wp2_with (first | ((with_reducible refine gate_callee (f := 72) rfl ?_); refine goesL_ (some 15) rfl rfl Tryd.func72 (by kernel_rfl) rfl #[.slice A0 l0.length c0, .int .i64 a1] rfl (by (try simp only [List.map_toArray, List.map_cons, List.map_nil]); first | done | rfl | (simp only [List.length_drop, List.length_take]; rfl)) ?_; (with_reducible refine (bin_Get.calls _ _ l0 a1 t287 t288 t289 _ ?side1 ?side2 A4.out).mono ?_); (case side1 => repeat (first | exact HR0.out | (with_reducible refine Kd.C_alloc ?_ _) | (with_reducible refine Kd.C_drewN ?_ _) | (with_reducible refine Kd.C_drew ?_))); (case side2 => exact HC0.out); rintro e w16 ⟨rfl, hb⟩; refine ⟨_, rfl, ?_⟩; have n0_ := Aside0.mk (below_step (by repeat (first | (with_reducible first | exact HB.out | apply below_alloc | apply pw_below_drewN | apply below_drew1) | exact HB.out)) hb); clear HB; have HB := n0_; clear n0_; (try clear hb); (try clear hb2); (try clear hk); (try clear hi)))
    all_goals go_ret3
    all_goals exact ⟨by first | rfl | (simp [errW_none, errW_some] <;> rfl) | (simp [*, errW_none, errW_some] <;> rfl), by repeat (first | (with_reducible first | exact HB.out | apply below_alloc | apply pw_below_drewN | apply below_drew1) | exact HB.out)⟩

attribute [simp] List.length_drop List.length_take

end Go.Proofs.YtlnfaeegmcihfaaDoor.Q
