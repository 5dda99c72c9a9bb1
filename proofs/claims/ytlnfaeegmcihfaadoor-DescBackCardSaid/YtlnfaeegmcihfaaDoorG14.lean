-- Written by the program wip/tools/mp.py of this work, which drives the print of the kit; hand texts of this session among it.
import Derived.Test.YtlnfaeegmcihfaaDoorG0
import Derived.Test.YtlnfaeegmcihfaaDoorG13
namespace Go.Proofs.YtlnfaeegmcihfaaDoor.G
open Go.RowKit Go.Proofs.HW Go.Proofs.YtlnfaeegmcihfaaDoorW.PrintWords Go.Proofs.YtlnfaeegmcihfaaDoorW.PrintLast
set_option linter.unusedVariables false
set_option linter.unusedSimpArgs false

/-! ### hornbookref02_Right: function 23 -/
mutual
def hornbookref02_Right.j1 : Nat → ByteArray → Int → Option (Bool)
  | 0, _, _ => none
  | k + 1, x0, x3 => if x3 > 4 then (some false) else (if 0 ≤ x3 then (if x3 ≤ (x0.size : Int) then (if (x0.extract (x3 : Int).toNat x0.size).toList = ([73] : List UInt8) then (some true) else (if (x0.extract (x3 : Int).toNat x0.size).toList = ([66] : List UInt8) then (some true) else (if (x0.extract (x3 : Int).toNat x0.size).toList = ([83] : List UInt8) then (some true) else (if ((x0.extract (x3 : Int).toNat x0.size).size : Int) > 2 then (if 0 < ((x0.extract (x3 : Int).toNat x0.size).size : Int) then (if (bt (x0.extract (x3 : Int).toNat x0.size) 0) = 76 then (if 0 ≤ (wrap64 (((x0.extract (x3 : Int).toNat x0.size).size : Int) - 1)) then (if (wrap64 (((x0.extract (x3 : Int).toNat x0.size).size : Int) - 1)) < ((x0.extract (x3 : Int).toNat x0.size).size : Int) then (if (bt (x0.extract (x3 : Int).toNat x0.size) (wrap64 (((x0.extract (x3 : Int).toNat x0.size).size : Int) - 1))) = 59 then (if 1 ≤ (wrap64 (((x0.extract (x3 : Int).toNat x0.size).size : Int) - 1)) then (if (wrap64 (((x0.extract (x3 : Int).toNat x0.size).size : Int) - 1)) ≤ ((x0.extract (x3 : Int).toNat x0.size).size : Int) then ((hornbookref01_Name.f k ((x0.extract (x3 : Int).toNat x0.size).extract 1 ((wrap64 (((x0.extract (x3 : Int).toNat x0.size).size : Int) - 1)) : Int).toNat)).bind fun t159 => (some t159)) else (none)) else (none)) else (some false)) else (none)) else (none)) else (some false)) else (none)) else (some false))))) else (none)) else (none))
def hornbookref02_Right.l0 : Nat → ByteArray → Int → Option (Bool)
  | 0, _, _ => none
  | k + 1, x0, x3 => if x3 < (x0.size : Int) then (if 0 ≤ x3 then (if (bt x0 x3) = 91 then (hornbookref02_Right.l0 k x0 (wrap64 (x3 + 1))) else (hornbookref02_Right.j1 k x0 x3)) else (none)) else (hornbookref02_Right.j1 k x0 x3)
end
def hornbookref02_Right.f (k : Nat) (a0 : ByteArray) : Option (Bool) := hornbookref02_Right.l0 k a0 0
theorem hornbookref02_Right.mono_l : ∀ k, (∀ y0 y1, LeO (hornbookref02_Right.j1 k y0 y1) (hornbookref02_Right.j1 (k + 1) y0 y1)) ∧ (∀ y0 y1, LeO (hornbookref02_Right.l0 k y0 y1) (hornbookref02_Right.l0 (k + 1) y0 y1))
  | 0 => ⟨fun _ _ r h => by simp [hornbookref02_Right.j1] at h, fun _ _ r h => by simp [hornbookref02_Right.l0] at h⟩
  | k + 1 => by
    obtain ⟨ih0, ih1⟩ := hornbookref02_Right.mono_l k
    refine ⟨?_, ?_⟩
    · intro y0 y1
      unfold hornbookref02_Right.j1
      repeat' first
      | (with_reducible exact ih0 _ _)
      | (with_reducible exact ih1 _ _)
      | (with_reducible exact hornbookref01_Name.mono _ _)
      | (with_reducible exact LeO.refl _)
      | (with_reducible exact LeO.none _)
      | (with_reducible refine LeO.ite ?_ ?_)
      | (with_reducible refine LeO.bind ?_ (fun _ => ?_))
      | exact ih0 _ _
      | exact ih1 _ _
      | exact hornbookref01_Name.mono _ _
      | exact LeO.none _
      | refine LeO.ite ?_ ?_
      | refine LeO.bind ?_ (fun _ => ?_)
    · intro y0 y1
      unfold hornbookref02_Right.l0
      repeat' first
      | (with_reducible exact ih0 _ _)
      | (with_reducible exact ih1 _ _)
      | (with_reducible exact hornbookref01_Name.mono _ _)
      | (with_reducible exact LeO.refl _)
      | (with_reducible exact LeO.none _)
      | (with_reducible refine LeO.ite ?_ ?_)
      | (with_reducible refine LeO.bind ?_ (fun _ => ?_))
      | exact ih0 _ _
      | exact ih1 _ _
      | exact hornbookref01_Name.mono _ _
      | exact LeO.none _
      | refine LeO.ite ?_ ?_
      | refine LeO.bind ?_ (fun _ => ?_)
theorem hornbookref02_Right.mono : ∀ a0 k, LeO (hornbookref02_Right.f k a0) (hornbookref02_Right.f (k + 1) a0) := by
  intro a0 k
  obtain ⟨ih0, ih1⟩ := hornbookref02_Right.mono_l k
  unfold hornbookref02_Right.f
  repeat' first
      | (with_reducible exact ih0 _ _)
      | (with_reducible exact ih1 _ _)
      | (with_reducible exact hornbookref01_Name.mono _ _)
      | (with_reducible exact LeO.refl _)
      | (with_reducible exact LeO.none _)
      | (with_reducible refine LeO.ite ?_ ?_)
      | (with_reducible refine LeO.bind ?_ (fun _ => ?_))
      | exact ih0 _ _
      | exact ih1 _ _
      | exact hornbookref01_Name.mono _ _
      | exact LeO.none _
      | refine LeO.ite ?_ ?_
      | refine LeO.bind ?_ (fun _ => ?_)
set_option maxHeartbeats 8000000 in
set_option maxRecDepth 100000 in
theorem hornbookref02_Right.calls (k : Nat) (a0 : ByteArray) (r : Bool) (w : World) (h : hornbookref02_Right.f k a0 = some r) :
    Calls Tryd.prog 23 #[.string a0] w fun e w' => e = .returned (.bool r) ∧ Drawn0 w w' := by
  have H : (hornbookref02_Right.l0 k a0 0) = some r := h
  clear h
  have HC2 := Aside0.mk H
  clear H
  go_enter Tryd.func23, Tryd.ntmps23
  go_upto_block 0 with (fail)
  go_cut [3] (fun v3 wc => ∃ (kq : Nat) (x3_1 : Int), v3 = .int .i64 x3_1 ∧ Aside0 (hornbookref02_Right.j1 kq a0 x3_1 = some r) ∧ Aside0 (kq ≤ k) ∧ Drawn0 w wc)
  case first =>
    have H := HC2.out
    clear HC2
    have H' := Aside0.mk H
    clear H
    go_wp2
    go_loopg [3] k (fun kq v3 w' => ∃ (x3_1 : Int), v3 = .int .i64 x3_1 ∧ Aside0 (hornbookref02_Right.l0 kq a0 x3_1 = some r) ∧ Aside0 (kq ≤ k) ∧ Drawn0 w w')
    case atStart => exact ⟨(0), (by first | rfl | (simp; done) | (simp [*]; done)), H', ⟨Nat.le_refl _⟩, by repeat (first | exact Drawn0.refl _ | apply Drawn0.step)⟩
    case round =>
      clear H'
      try clear c2
      try clear p2
      obtain ⟨x3_1, rfl, HA, HK1, ⟨m1, rfl⟩⟩ := hrel
      cases gk with
      | zero => exact absurd HA.out (by simp [hornbookref02_Right.l0])
      | succ k1 =>
        have H := HA.out
        clear HA
        simp only [hornbookref02_Right.l0] at H
        by_cases c3 : x3_1 < (a0.size : Int)
        · rw [if_pos c3] at H
          have c3b0 : decide (x3_1 < (a0.size : Int)) = true := decide_eq_true c3
          clear c3
          (first | rw [c3b0] | (simp only [i64_w, i32_w]; rw [c3b0]) | skip)
          by_cases c4 : 0 ≤ x3_1
          · rw [if_pos c4] at H
            have c4b0 : decide (0 ≤ x3_1) = true := decide_eq_true c4
            clear c4
            by_cases c6 : (bt a0 x3_1) = 91
            · rw [if_pos c6] at H
              have c6b0 : ((bt a0 x3_1) == 91) = true := beq_iff_eq.mpr c6
              have c6b1 : ((bt a0 x3_1) != 91) = false := bne_eq_false_iff_eq.mpr c6
              clear c6
              have H' := Aside0.mk H
              clear H
              have p5 : 0 ≤ (x3_1 : Int) := of_decide_eq_true (by first | (with_reducible assumption) | assumption)
              have q5 : x3_1 < (a0.size : Int) := of_decide_eq_true (by first | (with_reducible assumption) | assumption)
              have hx5 := bt_at a0 x3_1
              replace p5 := eq_true p5
              replace q5 := eq_true q5
              go_wp2
              go_roundg k1
              case measure => have := HK1.out; omega
              case rel => exact ⟨(wrap64 (x3_1 + 1)), (by first | rfl | (simp; done) | (simp [*]; done)), H', ⟨by have := HK1.out; omega⟩, by repeat (first | exact Drawn0.refl _ | apply Drawn0.step)⟩
            · rw [if_neg c6] at H
              have c6b0 : ((bt a0 x3_1) == 91) = false := beq_eq_false_iff_ne.mpr c6
              have c6b1 : ((bt a0 x3_1) != 91) = true := bne_iff_ne.mpr c6
              have H' := Aside0.mk H
              clear H
              have p5 : 0 ≤ (x3_1 : Int) := of_decide_eq_true (by first | (with_reducible assumption) | assumption)
              have q5 : x3_1 < (a0.size : Int) := of_decide_eq_true (by first | (with_reducible assumption) | assumption)
              have hx5 := bt_at a0 x3_1
              replace p5 := eq_true p5
              replace q5 := eq_true q5
              go_wp2
              go_meet
              case rel => exact ⟨_, (x3_1), (by first | rfl | (simp; done) | (simp [*]; done)), H', ⟨by have := HK1.out; first | omega | exact Nat.le_refl _⟩, by repeat (first | exact Drawn0.refl _ | apply Drawn0.step)⟩
          · rw [if_neg c4] at H
            exact absurd H (by simp)
        · rw [if_neg c3] at H
          have c3b0 : decide (x3_1 < (a0.size : Int)) = false := decide_eq_false c3
          clear c3
          (first | rw [c3b0] | (simp only [i64_w, i32_w]; rw [c3b0]) | skip)
          have H' := Aside0.mk H
          clear H
          go_wp2
          go_meet
          case rel => exact ⟨_, (x3_1), (by first | rfl | (simp; done) | (simp [*]; done)), H', ⟨by have := HK1.out; first | omega | exact Nat.le_refl _⟩, by repeat (first | exact Drawn0.refl _ | apply Drawn0.step)⟩
  case rest =>
    clear HC2
    try clear c2
    try clear p2
    try clear c3
    try clear c3b0
    try clear c4
    try clear c4b0
    try clear p5
    try clear q5
    try clear hx5
    try clear c6
    try clear c6b0
    try clear c6b1
    try clear p6
    try clear p2
    try clear p5
    try clear q5
    obtain ⟨kq, x3_1, rfl, HA, HJ1, ⟨mc1, rfl⟩⟩ := hcut
    cases kq with
    | zero => exact absurd HA.out (by simp [hornbookref02_Right.j1])
    | succ kj1 =>
      have H := HA.out
      clear HA
      simp only [hornbookref02_Right.j1] at H
      by_cases c7 : x3_1 > 4
      · rw [if_pos c7] at H
        have c7b0 : decide (4 < x3_1) = true := decide_eq_true c7
        clear c7
        obtain rfl := Option.some.inj H
        go_wp2
        all_goals go_ret
        all_goals exact ⟨by first | rfl | (simp; done) | (simp [*]; done), by repeat (first | exact Drawn0.refl _ | apply Drawn0.step)⟩
      · rw [if_neg c7] at H
        have c7b0 : decide (4 < x3_1) = false := decide_eq_false c7
        clear c7
        by_cases c8 : 0 ≤ x3_1
        · rw [if_pos c8] at H
          have c8b0 := eq_true c8
          have c8b1 : decide (0 ≤ x3_1) = true := decide_eq_true c8
          clear c8
          by_cases c9 : x3_1 ≤ (a0.size : Int)
          · rw [if_pos c9] at H
            have c9b0 := eq_true c9
            have c9b1 : decide (x3_1 ≤ (a0.size : Int)) = true := decide_eq_true c9
            clear c9
            obtain ⟨d1_, hd1_⟩ : ∃ d_, a0.extract (x3_1 : Int).toNat a0.size = d_ := ⟨_, rfl⟩
            rw [hd1_] at H
            have sd1_ : ∀ W_ : World, (Instr.slice 9 (.string a0) (some (.int .i64 x3_1)) none none).run Tryd.prog W_ = .ok (.string d1_) W_ := fun W_ => by rw [run_slice_string_l W_ 9 a0 Tryd.underlying9 .i64 _ (of_decide_eq_true (show decide (0 ≤ x3_1) = true by assumption)) (of_decide_eq_true (show decide (x3_1 ≤ (a0.size : Int)) = true by assumption)), hd1_]
            clear hd1_
            by_cases c10 : d1_.toList = ([73] : List UInt8)
            · rw [if_pos c10] at H
              have c10b0 : (d1_.toList == ([73] : List UInt8)) = true := beq_iff_eq.mpr c10
              have c10b1 : (d1_.toList != ([73] : List UInt8)) = false := bne_eq_false_iff_eq.mpr c10
              clear c10
              obtain rfl := Option.some.inj H
              go_wp2
              all_goals go_ret
              all_goals exact ⟨by first | rfl | (simp; done) | (simp [*]; done), by repeat (first | exact Drawn0.refl _ | apply Drawn0.step)⟩
            · rw [if_neg c10] at H
              have c10b0 : (d1_.toList == ([73] : List UInt8)) = false := beq_eq_false_iff_ne.mpr c10
              have c10b1 : (d1_.toList != ([73] : List UInt8)) = true := bne_iff_ne.mpr c10
              by_cases c11 : d1_.toList = ([66] : List UInt8)
              · rw [if_pos c11] at H
                have c11b0 : (d1_.toList == ([66] : List UInt8)) = true := beq_iff_eq.mpr c11
                have c11b1 : (d1_.toList != ([66] : List UInt8)) = false := bne_eq_false_iff_eq.mpr c11
                clear c11
                obtain rfl := Option.some.inj H
                go_wp2
                all_goals go_ret
                all_goals exact ⟨by first | rfl | (simp; done) | (simp [*]; done), by repeat (first | exact Drawn0.refl _ | apply Drawn0.step)⟩
              · rw [if_neg c11] at H
                have c11b0 : (d1_.toList == ([66] : List UInt8)) = false := beq_eq_false_iff_ne.mpr c11
                have c11b1 : (d1_.toList != ([66] : List UInt8)) = true := bne_iff_ne.mpr c11
                by_cases c12 : d1_.toList = ([83] : List UInt8)
                · rw [if_pos c12] at H
                  have c12b0 : (d1_.toList == ([83] : List UInt8)) = true := beq_iff_eq.mpr c12
                  have c12b1 : (d1_.toList != ([83] : List UInt8)) = false := bne_eq_false_iff_eq.mpr c12
                  clear c12
                  obtain rfl := Option.some.inj H
                  go_wp2
                  all_goals go_ret
                  all_goals exact ⟨by first | rfl | (simp; done) | (simp [*]; done), by repeat (first | exact Drawn0.refl _ | apply Drawn0.step)⟩
                · rw [if_neg c12] at H
                  have c12b0 : (d1_.toList == ([83] : List UInt8)) = false := beq_eq_false_iff_ne.mpr c12
                  have c12b1 : (d1_.toList != ([83] : List UInt8)) = true := bne_iff_ne.mpr c12
                  by_cases c13 : (d1_.size : Int) > 2
                  · rw [if_pos c13] at H
                    have c13b0 : decide (2 < (d1_.size : Int)) = true := decide_eq_true c13
                    have c13b1 : decide (2 < d1_.size) = true := decide_eq_true (by omega)
                    clear c13
                    by_cases c14 : 0 < (d1_.size : Int)
                    · rw [if_pos c14] at H
                      have c14b0 : decide (0 < (d1_.size : Int)) = true := decide_eq_true c14
                      have c14b1 : decide (0 < d1_.size) = true := decide_eq_true (by omega)
                      clear c14
                      by_cases c16 : (bt d1_ 0) = 76
                      · rw [if_pos c16] at H
                        have c16b0 : ((bt d1_ 0) == 76) = true := beq_iff_eq.mpr c16
                        have c16b1 : ((bt d1_ 0) != 76) = false := bne_eq_false_iff_eq.mpr c16
                        clear c16
                        obtain ⟨ji17, hji17⟩ : ∃ j_ : Int, (wrap64 ((d1_.size : Int) - 1)) = j_ := ⟨_, rfl⟩
                        replace H : (if 0 ≤ (ji17) then (if (ji17) < (d1_.size : Int) then (if (bt d1_ (ji17)) = 59 then (if 1 ≤ (ji17) then (if (ji17) ≤ (d1_.size : Int) then ((hornbookref01_Name.f kj1 (d1_.extract 1 ((ji17) : Int).toNat)).bind fun t159 => (some t159)) else (none)) else (none)) else (some false)) else (none)) else (none)) = some r := by first | (rw [hji17] at H; exact H) | (simp only [hji17] at H ⊢; exact H)
                        have hji17w : (IntKind.i64.wrap ((d1_.size : Int) - 1)) = ji17 := (i64_w _).trans hji17
                        by_cases c18 : 0 ≤ (ji17)
                        · rw [if_pos c18] at H
                          have c18b0 : decide (0 ≤ (ji17)) = true := decide_eq_true c18
                          clear c18
                          by_cases c19 : (ji17) < (d1_.size : Int)
                          · rw [if_pos c19] at H
                            have c19b0 : decide ((ji17) < (d1_.size : Int)) = true := decide_eq_true c19
                            clear c19
                            by_cases c21 : (bt d1_ (ji17)) = 59
                            · rw [if_pos c21] at H
                              have c21b0 : ((bt d1_ (ji17)) == 59) = true := beq_iff_eq.mpr c21
                              have c21b1 : ((bt d1_ (ji17)) != 59) = false := bne_eq_false_iff_eq.mpr c21
                              clear c21
                              by_cases c22 : 1 ≤ (ji17)
                              · rw [if_pos c22] at H
                                have c22b0 := eq_true c22
                                have c22b1 : decide (1 ≤ (ji17)) = true := decide_eq_true c22
                                clear c22
                                by_cases c23 : (ji17) ≤ (d1_.size : Int)
                                · rw [if_pos c23] at H
                                  have c23b0 := eq_true c23
                                  have c23b1 : decide ((ji17) ≤ (d1_.size : Int)) = true := decide_eq_true c23
                                  clear c23
                                  replace H := Option.bind_eq_some_iff.mp H
                                  obtain ⟨t159, A240, H⟩ := H
                                  replace H : (some t159) = some r := H
                                  have A24 := Aside0.mk A240
                                  clear A240
                                  obtain rfl := Option.some.inj H
                                  have p15 : 0 ≤ (0 : Int) := (by omega)
                                  have q15 : 0 < d1_.size := (by have : (0 : Int) < (d1_.size : Int) := of_decide_eq_true (by first | (with_reducible assumption) | assumption); omega)
                                  have hx15 : ∀ h : 0 < d1_.size, ((d1_[0]'h).toNat : Int) = bt d1_ 0 := bt_at d1_ 0
                                  clear p15
                                  have qi15 : (0 < (d1_.size : Int)) = True := eq_true (of_decide_eq_true (by first | (with_reducible assumption) | assumption))
                                  replace q15 := eq_true q15
                                  have p20 : 0 ≤ ((ji17) : Int) := of_decide_eq_true (by first | (with_reducible assumption) | assumption)
                                  have q20 : (ji17) < (d1_.size : Int) := of_decide_eq_true (by first | (with_reducible assumption) | assumption)
                                  have hx20 := bt_at d1_ (ji17)
                                  replace p20 := eq_true p20
                                  replace q20 := eq_true q20
                                  go_wp2_with (first | (go_at_call 61; (with_reducible refine (hornbookref01_Name.calls kj1 (d1_.extract 1 ((ji17) : Int).toNat) t159 _ A24.out).mono ?_); rintro e w' ⟨rfl, ⟨nd, rfl⟩⟩))
                                  all_goals go_ret
                                  all_goals exact ⟨by first | rfl | (simp; done) | (simp only [← hji17] <;> (first | rfl | simp)) | (simp [*]; done), by repeat (first | exact Drawn0.refl _ | apply Drawn0.step)⟩
                                · rw [if_neg c23] at H
                                  exact absurd H (by simp)
                              · rw [if_neg c22] at H
                                exact absurd H (by simp)
                            · rw [if_neg c21] at H
                              have c21b0 : ((bt d1_ (ji17)) == 59) = false := beq_eq_false_iff_ne.mpr c21
                              have c21b1 : ((bt d1_ (ji17)) != 59) = true := bne_iff_ne.mpr c21
                              obtain rfl := Option.some.inj H
                              have p15 : 0 ≤ (0 : Int) := (by omega)
                              have q15 : 0 < d1_.size := (by have : (0 : Int) < (d1_.size : Int) := of_decide_eq_true (by first | (with_reducible assumption) | assumption); omega)
                              have hx15 : ∀ h : 0 < d1_.size, ((d1_[0]'h).toNat : Int) = bt d1_ 0 := bt_at d1_ 0
                              clear p15
                              have qi15 : (0 < (d1_.size : Int)) = True := eq_true (of_decide_eq_true (by first | (with_reducible assumption) | assumption))
                              replace q15 := eq_true q15
                              have p20 : 0 ≤ ((ji17) : Int) := of_decide_eq_true (by first | (with_reducible assumption) | assumption)
                              have q20 : (ji17) < (d1_.size : Int) := of_decide_eq_true (by first | (with_reducible assumption) | assumption)
                              have hx20 := bt_at d1_ (ji17)
                              replace p20 := eq_true p20
                              replace q20 := eq_true q20
                              go_wp2
                              all_goals go_ret
                              all_goals exact ⟨by first | rfl | (simp; done) | (simp only [← hji17] <;> (first | rfl | simp)) | (simp [*]; done), by repeat (first | exact Drawn0.refl _ | apply Drawn0.step)⟩
                          · rw [if_neg c19] at H
                            exact absurd H (by simp)
                        · rw [if_neg c18] at H
                          exact absurd H (by simp)
                      · rw [if_neg c16] at H
                        have c16b0 : ((bt d1_ 0) == 76) = false := beq_eq_false_iff_ne.mpr c16
                        have c16b1 : ((bt d1_ 0) != 76) = true := bne_iff_ne.mpr c16
                        obtain rfl := Option.some.inj H
                        have p15 : 0 ≤ (0 : Int) := (by omega)
                        have q15 : 0 < d1_.size := (by have : (0 : Int) < (d1_.size : Int) := of_decide_eq_true (by first | (with_reducible assumption) | assumption); omega)
                        have hx15 : ∀ h : 0 < d1_.size, ((d1_[0]'h).toNat : Int) = bt d1_ 0 := bt_at d1_ 0
                        clear p15
                        have qi15 : (0 < (d1_.size : Int)) = True := eq_true (of_decide_eq_true (by first | (with_reducible assumption) | assumption))
                        replace q15 := eq_true q15
                        go_wp2
                        all_goals go_ret
                        all_goals exact ⟨by first | rfl | (simp; done) | (simp [*]; done), by repeat (first | exact Drawn0.refl _ | apply Drawn0.step)⟩
                    · rw [if_neg c14] at H
                      exact absurd H (by simp)
                  · rw [if_neg c13] at H
                    have c13b0 : decide (2 < (d1_.size : Int)) = false := decide_eq_false c13
                    have c13b1 : decide (2 < d1_.size) = false := decide_eq_false (by omega)
                    clear c13
                    obtain rfl := Option.some.inj H
                    go_wp2
                    all_goals go_ret
                    all_goals exact ⟨by first | rfl | (simp; done) | (simp [*]; done), by repeat (first | exact Drawn0.refl _ | apply Drawn0.step)⟩
          · rw [if_neg c9] at H
            exact absurd H (by simp)
        · rw [if_neg c8] at H
          exact absurd H (by simp)

/-! ### hornbookref02_Class: function 22 -/
def hornbookref02_Class.f (k : Nat) (a0 : ByteArray) : Option (ByteArray × Bool) := (hornbookref02_Right.f k a0).bind fun t160 => (if t160 = true then (if 0 < (a0.size : Int) then (if (bt a0 0) = 76 then (if 1 ≤ (wrap64 ((a0.size : Int) - 1)) then (if (wrap64 ((a0.size : Int) - 1)) ≤ (a0.size : Int) then (some (a0.extract 1 ((wrap64 ((a0.size : Int) - 1)) : Int).toNat, true)) else (none)) else (none)) else (some ((⟨#[]⟩ : ByteArray), false))) else (none)) else (some ((⟨#[]⟩ : ByteArray), false)))
theorem hornbookref02_Class.mono : ∀ a0 k, LeO (hornbookref02_Class.f k a0) (hornbookref02_Class.f (k + 1) a0) := by
  intro a0 k
  unfold hornbookref02_Class.f
  repeat' first
      | (with_reducible exact hornbookref02_Right.mono _ _)
      | (with_reducible exact LeO.refl _)
      | (with_reducible exact LeO.none _)
      | (with_reducible refine LeO.ite ?_ ?_)
      | (with_reducible refine LeO.bind ?_ (fun _ => ?_))
      | exact hornbookref02_Right.mono _ _
      | exact LeO.none _
      | refine LeO.ite ?_ ?_
      | refine LeO.bind ?_ (fun _ => ?_)
set_option maxHeartbeats 8000000 in
set_option maxRecDepth 100000 in
theorem hornbookref02_Class.calls (k : Nat) (a0 : ByteArray) (r1 : ByteArray) (r2 : Bool) (w : World) (h : hornbookref02_Class.f k a0 = some (r1, r2)) :
    Calls Tryd.prog 22 #[.string a0] w fun e w' => e = .returned (.tuple #[.string r1, .bool r2]) ∧ Drawn0 w w' := by
  have H : ((hornbookref02_Right.f k a0).bind fun t160 => (if t160 = true then (if 0 < (a0.size : Int) then (if (bt a0 0) = 76 then (if 1 ≤ (wrap64 ((a0.size : Int) - 1)) then (if (wrap64 ((a0.size : Int) - 1)) ≤ (a0.size : Int) then (some (a0.extract 1 ((wrap64 ((a0.size : Int) - 1)) : Int).toNat, true)) else (none)) else (none)) else (some ((⟨#[]⟩ : ByteArray), false))) else (none)) else (some ((⟨#[]⟩ : ByteArray), false)))) = some (r1, r2) := h
  clear h
  replace H := Option.bind_eq_some_iff.mp H
  obtain ⟨t160, A20, H⟩ := H
  replace H : (if t160 = true then (if 0 < (a0.size : Int) then (if (bt a0 0) = 76 then (if 1 ≤ (wrap64 ((a0.size : Int) - 1)) then (if (wrap64 ((a0.size : Int) - 1)) ≤ (a0.size : Int) then (some (a0.extract 1 ((wrap64 ((a0.size : Int) - 1)) : Int).toNat, true)) else (none)) else (none)) else (some ((⟨#[]⟩ : ByteArray), false))) else (none)) else (some ((⟨#[]⟩ : ByteArray), false))) = some (r1, r2) := H
  have A2 := Aside0.mk A20
  clear A20
  by_cases c3 : t160 = true
  · subst c3
    have H1 : (if 0 < (a0.size : Int) then (if (bt a0 0) = 76 then (if 1 ≤ (wrap64 ((a0.size : Int) - 1)) then (if (wrap64 ((a0.size : Int) - 1)) ≤ (a0.size : Int) then (some (a0.extract 1 ((wrap64 ((a0.size : Int) - 1)) : Int).toNat, true)) else (none)) else (none)) else (some ((⟨#[]⟩ : ByteArray), false))) else (none)) = some (r1, r2) := by rw [if_pos rfl] at H; exact H
    clear H
    have H := H1
    clear H1
    by_cases c4 : 0 < (a0.size : Int)
    · rw [if_pos c4] at H
      have c4b0 : decide (0 < (a0.size : Int)) = true := decide_eq_true c4
      have c4b1 : decide (0 < a0.size) = true := decide_eq_true (by omega)
      clear c4
      by_cases c6 : (bt a0 0) = 76
      · rw [if_pos c6] at H
        have c6b0 : ((bt a0 0) == 76) = true := beq_iff_eq.mpr c6
        have c6b1 : ((bt a0 0) != 76) = false := bne_eq_false_iff_eq.mpr c6
        clear c6
        by_cases c7 : 1 ≤ (wrap64 ((a0.size : Int) - 1))
        · rw [if_pos c7] at H
          have c7b0 := eq_true c7
          have c7b1 : decide (1 ≤ (wrap64 ((a0.size : Int) - 1))) = true := decide_eq_true c7
          clear c7
          by_cases c8 : (wrap64 ((a0.size : Int) - 1)) ≤ (a0.size : Int)
          · rw [if_pos c8] at H
            have c8b0 := eq_true c8
            have c8b1 : decide ((wrap64 ((a0.size : Int) - 1)) ≤ (a0.size : Int)) = true := decide_eq_true c8
            clear c8
            simp only [Option.some.injEq, Prod.mk.injEq] at H
            obtain ⟨rfl, rfl⟩ := H
            go_enter Tryd.func22, Tryd.ntmps22
            go_wp2_with (first | ((with_reducible refine gate_callee (f := 23) rfl ?_); refine goesL_ (some 5) rfl rfl Tryd.func23 (by kernel_rfl) rfl #[.string a0] rfl (by (try simp only [List.map_toArray, List.map_cons, List.map_nil]); first | done | rfl | (simp only [List.length_drop, List.length_take]; rfl)) ?_; (with_reducible refine (hornbookref02_Right.calls k a0 true _ A2.out).mono ?_); rintro e w' ⟨rfl, ⟨nd, rfl⟩⟩; refine ⟨_, rfl, ?_⟩; have p5 : 0 ≤ (0 : Int) := (by omega); have q5 : 0 < a0.size := (by have : (0 : Int) < (a0.size : Int) := of_decide_eq_true (by first | (with_reducible assumption) | assumption); omega); have hx5 : ∀ h : 0 < a0.size, ((a0[0]'h).toNat : Int) = bt a0 0 := bt_at a0 0; clear p5; have qi5 : (0 < (a0.size : Int)) = True := eq_true (of_decide_eq_true (by first | (with_reducible assumption) | assumption)); replace q5 := eq_true q5))
            all_goals go_ret2
            all_goals exact ⟨by first | rfl | (simp; done) | (simp [*]; done), by repeat (first | exact Drawn0.refl _ | apply Drawn0.step)⟩
          · rw [if_neg c8] at H
            exact absurd H (by simp)
        · rw [if_neg c7] at H
          exact absurd H (by simp)
      · rw [if_neg c6] at H
        have c6b0 : ((bt a0 0) == 76) = false := beq_eq_false_iff_ne.mpr c6
        have c6b1 : ((bt a0 0) != 76) = true := bne_iff_ne.mpr c6
        simp only [Option.some.injEq, Prod.mk.injEq] at H
        obtain ⟨rfl, rfl⟩ := H
        go_enter Tryd.func22, Tryd.ntmps22
        go_wp2_with (first | ((with_reducible refine gate_callee (f := 23) rfl ?_); refine goesL_ (some 5) rfl rfl Tryd.func23 (by kernel_rfl) rfl #[.string a0] rfl (by (try simp only [List.map_toArray, List.map_cons, List.map_nil]); first | done | rfl | (simp only [List.length_drop, List.length_take]; rfl)) ?_; (with_reducible refine (hornbookref02_Right.calls k a0 true _ A2.out).mono ?_); rintro e w' ⟨rfl, ⟨nd, rfl⟩⟩; refine ⟨_, rfl, ?_⟩; have p5 : 0 ≤ (0 : Int) := (by omega); have q5 : 0 < a0.size := (by have : (0 : Int) < (a0.size : Int) := of_decide_eq_true (by first | (with_reducible assumption) | assumption); omega); have hx5 : ∀ h : 0 < a0.size, ((a0[0]'h).toNat : Int) = bt a0 0 := bt_at a0 0; clear p5; have qi5 : (0 < (a0.size : Int)) = True := eq_true (of_decide_eq_true (by first | (with_reducible assumption) | assumption)); replace q5 := eq_true q5))
        all_goals go_ret2
        all_goals exact ⟨by first | rfl | (simp; done) | (simp [*]; done), by repeat (first | exact Drawn0.refl _ | apply Drawn0.step)⟩
    · rw [if_neg c4] at H
      exact absurd H (by simp)
  · replace c3 := Bool.eq_false_iff.mpr c3
    subst c3
    have H1 : (some ((⟨#[]⟩ : ByteArray), false)) = some (r1, r2) := by rw [if_neg (show ¬ (false = true) by decide)] at H; exact H
    clear H
    have H := H1
    clear H1
    simp only [Option.some.injEq, Prod.mk.injEq] at H
    obtain ⟨rfl, rfl⟩ := H
    go_enter Tryd.func22, Tryd.ntmps22
    go_wp2_with (first | ((with_reducible refine gate_callee (f := 23) rfl ?_); refine goesL_ (some 5) rfl rfl Tryd.func23 (by kernel_rfl) rfl #[.string a0] rfl (by (try simp only [List.map_toArray, List.map_cons, List.map_nil]); first | done | rfl | (simp only [List.length_drop, List.length_take]; rfl)) ?_; (with_reducible refine (hornbookref02_Right.calls k a0 false _ A2.out).mono ?_); rintro e w' ⟨rfl, ⟨nd, rfl⟩⟩; refine ⟨_, rfl, ?_⟩))
    all_goals go_ret2
    all_goals exact ⟨by first | rfl | (simp; done) | (simp [*]; done), by repeat (first | exact Drawn0.refl _ | apply Drawn0.step)⟩

end Go.Proofs.YtlnfaeegmcihfaaDoor.G
