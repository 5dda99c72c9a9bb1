-- Written by the program wip/tools/mp.py of this work, which drives the print of the kit; hand texts of this session among it.
import Derived.Test.YtlnfaeegmcihfaaDoorQ0
import Derived.Test.YtlnfaeegmcihfaaDoorQ13
import Derived.Test.YtlnfaeegmcihfaaDoorQ15
import Derived.Test.YtlnfaeegmcihfaaDoorQ21
namespace Go.Proofs.YtlnfaeegmcihfaaDoor.Q
open Go.RowKit Go.Proofs.HW Go.Proofs.YtlnfaeegmcihfaaDoorW.PrintWords Go.Proofs.YtlnfaeegmcihfaaDoorW.PrintLast
set_option linter.unusedVariables false
set_option linter.unusedSimpArgs false

-- HANDTEXT
/-! ### bin_Get: function 72, by hand -/
-- NEEDS hornbook/bin.pieces
-- NEEDS slices.Equal[[]byte,byte]
-- NEEDS hornbook/bin.Put
def unz (u : Nat) : Int := if u % 2 = 0 then ((u / 2 : Nat) : Int) else -((u / 2 : Nat) : Int) - 1
def bin_Get.lp (rest : List Int) (a1 : Int) : List Int → Nat → Nat → Int × Int × Int
  | [], _, _ => (0, 0, if 10 ≤ rest.length then 5 else 4)
  | c :: t, k, u =>
    if k = 10 then (0, 0, 5)
    else if 128 ≤ c then bin_Get.lp rest a1 t (k + 1) ((u + c.toNat % 128 * 2 ^ (7 * k)) % 18446744073709551616)
    else if (vb (zg (unz ((u + c.toNat % 128 * 2 ^ (7 * k)) % 18446744073709551616)))).map (fun d : Nat => (d : Int)) = rest.take (k + 1) then (unz ((u + c.toNat % 128 * 2 ^ (7 * k)) % 18446744073709551616), a1 + k + 1, 0)
    else (0, 0, 5)
def bin_Get.f (l0 : List Int) (a1 : Int) : Option (Int × Int × Int) :=
  if (∀ x ∈ l0, 0 ≤ x ∧ x < 256) ∧ l0.length < 140737488355328 then
    some (if a1 < 0 ∨ (l0.length : Int) < a1 then (0, 0, 3) else bin_Get.lp (l0.drop a1.toNat) a1 (l0.drop a1.toNat) 0 0)
  else none
theorem mask7 {c : Int} (h0 : 0 ≤ c) (h1 : c < 256) : bits .and .u8 c 127 = c % 128 := bits_mask .u8 8 (by decide) wraps_u8 7 (by decide) c h0 h1
theorem two64 : (2 : Int) ^ 64 = 18446744073709551616 := by decide
theorem wraps_u64 (n : Int) (h0 : 0 ≤ n) (h1 : n < 2 ^ 64) : IntKind.u64.wrap n = n := PlainAid.u64_nonneg h0 (by rw [two64] at h1; omega)
theorem or_join {a b k : Nat} (hk : k < 10) (ha : a < 2 ^ (7 * k)) (hb : b < 2 ^ 64) (hd : b % 2 ^ (7 * k) = 0) : bits .or .u64 (a : Int) (b : Int) = ((b + a : Nat) : Int) := by
  have hp : 2 ^ (7 * k) ≤ 2 ^ 63 := Nat.pow_le_pow_right (by decide) (by omega)
  have ha' : a < 2 ^ 64 := by have : (2 : Nat) ^ 63 < 2 ^ 64 := by decide
                              omega
  rw [(bits_nat .u64 64 (by decide) wraps_u64 a b ha' hb).2, Nat.or_comm, ← (bits_nat .u64 64 (by decide) wraps_u64 b a hb ha').2]
  rw [bits_join .u64 64 (by decide) wraps_u64 (7 * k) (b : Int) (a : Int) (by omega) (by exact_mod_cast hd) (by exact_mod_cast hb) (by omega) (by exact_mod_cast ha) (by exact_mod_cast ha')]
  omega
theorem step_nums {e u y P : Nat} (hP : 2 ^ e = P) (hu : u < 2 ^ e) (hy : y < 128)
    (h1 : ∀ z, z < 128 → z * P % 18446744073709551616 % P = 0) (h2 : ∀ z v, z < 128 → v < P → z * P % 18446744073709551616 + v = (v + z * P) % 18446744073709551616) :
    y * 2 ^ e % 18446744073709551616 % 2 ^ e = 0 ∧ y * 2 ^ e % 18446744073709551616 + u = (u + y * 2 ^ e) % 18446744073709551616 := by
  subst hP
  exact ⟨h1 y hy, h2 y u hy hu⟩
theorem step_u {u k : Nat} {c : Int} (h0 : 0 ≤ c) (h1 : c < 256) (hk : k < 10) (hu : u < 2 ^ (7 * k)) :
    bits .or .u64 (u : Int) (IntKind.u64.wrap (IntKind.u64.wrap (bits .and .u8 c 127) * 2 ^ (k * 7))) = (((u + c.toNat % 128 * 2 ^ (7 * k)) % 18446744073709551616 : Nat) : Int) := by
  rw [mask7 h0 h1, wraps_u64 (c % 128) (by omega) (by rw [two64]; omega)]
  obtain ⟨x, rfl⟩ := Int.eq_ofNat_of_zero_le h0
  have hw : IntKind.u64.wrap ((x : Int) % 128 * 2 ^ (k * 7)) = ((x % 128 * 2 ^ (7 * k) % 18446744073709551616 : Nat) : Int) := by
    rw [IntKind.wrap_u64, Nat.mul_comm k 7]; simp only [Int.natCast_emod, Int.natCast_mul, Int.natCast_pow]; rfl
  rw [hw]
  have hb : x % 128 * 2 ^ (7 * k) % 18446744073709551616 < 2 ^ 64 := Nat.mod_lt _ (by decide)
  have hq : x % 128 * 2 ^ (7 * k) % 18446744073709551616 % 2 ^ (7 * k) = 0 ∧ (x % 128 * 2 ^ (7 * k) % 18446744073709551616 + u = (u + x % 128 * 2 ^ (7 * k)) % 18446744073709551616) := by
    have : k = 0 ∨ k = 1 ∨ k = 2 ∨ k = 3 ∨ k = 4 ∨ k = 5 ∨ k = 6 ∨ k = 7 ∨ k = 8 ∨ k = 9 := by omega
    clear hw hb h0 h1
    have hx := Nat.mod_lt x (show 128 > 0 by decide)
    generalize x % 128 = y at *
    rcases this with rfl | rfl | rfl | rfl | rfl | rfl | rfl | rfl | rfl | rfl
    · exact step_nums (P := 1) (by rfl) hu hx (fun z hz => by omega) (fun z v hz hv => by omega)
    · exact step_nums (P := 128) (by rfl) hu hx (fun z hz => by omega) (fun z v hz hv => by omega)
    · exact step_nums (P := 16384) (by rfl) hu hx (fun z hz => by omega) (fun z v hz hv => by omega)
    · exact step_nums (P := 2097152) (by rfl) hu hx (fun z hz => by omega) (fun z v hz hv => by omega)
    · exact step_nums (P := 268435456) (by rfl) hu hx (fun z hz => by omega) (fun z v hz hv => by omega)
    · exact step_nums (P := 34359738368) (by rfl) hu hx (fun z hz => by omega) (fun z v hz hv => by omega)
    · exact step_nums (P := 4398046511104) (by rfl) hu hx (fun z hz => by omega) (fun z v hz hv => by omega)
    · exact step_nums (P := 562949953421312) (by rfl) hu hx (fun z hz => by omega) (fun z v hz hv => by omega)
    · exact step_nums (P := 72057594037927936) (by rfl) hu hx (fun z hz => by omega) (fun z v hz hv => by omega)
    · exact step_nums (P := 9223372036854775808) (by rfl) hu hx (fun z hz => by omega) (fun z v hz hv => by omega)
  rw [or_join hk hu hb hq.1, hq.2]
  rfl
theorem unz_step {U : Nat} (hU : U < 18446744073709551616) : bits .xor .i64 (wrap64 ((U : Int) / 2)) (wrap64 (-wrap64 (bits .and .u64 (U : Int) 1))) = unz U := by
  have hm : bits .and .u64 (U : Int) 1 = ((U % 2 : Nat) : Int) := by
    have h2 : (2 : Int) ^ 64 = 18446744073709551616 := by decide
    have := bits_mask .u64 64 (by decide) wraps_u64 1 (by decide) (U : Int) (by omega) (by omega)
    rw [show (2 : Int) ^ 1 - 1 = 1 by decide] at this
    rw [this]; push_cast; rfl
  have hh : wrap64 ((U : Int) / 2) = ((U / 2 : Nat) : Int) := by rw [← PlainAid.i64_is, IntKind.wrap_i64]; omega
  have hX : U / 2 < 9223372036854775808 := by omega
  unfold unz
  generalize U / 2 = X at *
  rw [hm, hh]
  rcases Nat.mod_two_eq_zero_or_one U with h | h
  · rw [h, if_pos rfl, show wrap64 (-wrap64 ((0 : Nat) : Int)) = 0 by simp [← PlainAid.i64_is, IntKind.wrap_i64]]
    have e : (BitVec.ofNat 64 X ^^^ BitVec.ofInt 64 0) = BitVec.ofNat 64 X := by simp
    show IntKind.i64.wrap (((BitVec.ofNat 64 X ^^^ BitVec.ofInt 64 0).toNat : Nat) : Int) = X
    rw [e, BitVec.toNat_ofNat, Nat.mod_eq_of_lt (by omega), IntKind.wrap_i64]
    omega
  · rw [h, if_neg (by decide), show wrap64 (-wrap64 ((1 : Nat) : Int)) = -1 by simp [← PlainAid.i64_is, IntKind.wrap_i64]]
    show IntKind.i64.wrap (((BitVec.ofNat 64 X ^^^ BitVec.allOnes 64).toNat : Nat) : Int) = _
    rw [BitVec.xor_allOnes, BitVec.toNat_not, BitVec.toNat_ofNat, Nat.mod_eq_of_lt (by omega), IntKind.wrap_i64]
    omega
theorem unz_in {U : Nat} (hU : U < 18446744073709551616) : -9223372036854775808 ≤ unz U ∧ unz U ≤ 9223372036854775807 := by unfold unz; split <;> omega
theorem equal_loop (x0 x1 : List Int) (n : Nat) (h0 : x0.length = n) (h1 : x1.length = n) (hn : n < 140737488355328) : ∀ (m i : Nat), i + m = n → slices_Equal_byte_byte.l0 (m + 1) x0 x1 n i = some (decide (x0.drop i = x1.drop i))
  | 0, i, hi => by
    unfold slices_Equal_byte_byte.l0
    rw [if_neg (by omega), List.drop_eq_nil_of_le (by omega), List.drop_eq_nil_of_le (by omega)]
    simp
  | m + 1, i, hi => by
    unfold slices_Equal_byte_byte.l0
    have e0 : rd x0 (i : Int) = x0[i]'(by omega) := by simp [rd, show i < x0.length by omega]
    have e1 : rd x1 (i : Int) = x1[i]'(by omega) := by simp [rd, show i < x1.length by omega]
    rw [if_pos (by omega), if_pos (by omega), if_pos (by omega), if_pos (by omega), e0, e1]
    rw [show x0.drop i = x0[i]'(by omega) :: x0.drop (i + 1) from List.drop_eq_getElem_cons _, show x1.drop i = x1[i]'(by omega) :: x1.drop (i + 1) from List.drop_eq_getElem_cons _]
    have hw : wrap64 ((i : Int) + 1) = ((i + 1 : Nat) : Int) := by rw [← PlainAid.i64_is, IntKind.wrap_i64]; omega
    by_cases he : x0[i]'(by omega) = x1[i]'(by omega)
    · rw [if_pos he, hw, equal_loop x0 x1 n h0 h1 hn m (i + 1) (by omega), he]
      simp only [List.cons.injEq, true_and]
    · rw [if_neg he, decide_eq_false (fun e => he (List.cons.inj e).1)]
theorem equal_ev (x0 x1 : List Int) (hn : x0.length < 140737488355328) : ∃ k, slices_Equal_byte_byte.f k x0 x1 = some (decide (x0 = x1)) := by
  unfold slices_Equal_byte_byte.f
  by_cases h : x0.length = x1.length
  · refine ⟨x0.length + 1, ?_⟩
    rw [if_pos (by omega)]
    have := equal_loop x0 x1 x0.length rfl h.symm hn x0.length 0 (by omega)
    simpa using this
  · refine ⟨0, ?_⟩
    rw [if_neg (by omega)]
    have : x0 ≠ x1 := fun e => h (by rw [e])
    simp [this]
theorem step_lt {u k x : Nat} (hk : k < 10) (hu : u < 2 ^ (7 * k)) : (u + x % 128 * 2 ^ (7 * k)) % 18446744073709551616 < 2 ^ (7 * (k + 1)) := by
  refine Nat.lt_of_le_of_lt (Nat.mod_le _ _) ?_
  rw [show 7 * (k + 1) = 7 + 7 * k by omega, Nat.pow_add]
  have h1 : x % 128 ≤ 127 := by omega
  have h2 : x % 128 * 2 ^ (7 * k) ≤ 127 * 2 ^ (7 * k) := Nat.mul_le_mul_right _ h1
  have h3 : (2 : Nat) ^ 7 = 128 := by decide
  rw [h3]
  omega
structure GetInv (rest : List Int) (a1 r1 r2 r3 : Int) (w : World) (v7 v27 : Value) (wr : World) : Prop where
  mk :: (out : ∃ (u k : Nat) (t : List Int), v7 = .int .u64 u ∧ v27 = .int .i64 k ∧ wr = w ∧ k ≤ 10 ∧ k ≤ rest.length ∧ rest.drop k = t ∧ u < 2 ^ (7 * k) ∧ u < 18446744073709551616 ∧ bin_Get.lp rest a1 t k u = (r1, r2, r3))
set_option maxRecDepth 100000 in
theorem bin_Get.calls (A0 : Option Addr) (c0 : Nat) (l0 : List Int) (a1 : Int) (r1 r2 r3 : Int) (w : World) (hr0 : Kd.C (Kd.int .u8) w A0 l0.length l0) (hc0 : l0.length ≤ c0) (h : bin_Get.f l0 a1 = some (r1, r2, r3)) :
    Calls Tryd.prog 72 #[.slice A0 l0.length c0, .int .i64 a1] w fun e w' => e = .returned (.tuple #[.int .i64 r1, .int .i64 r2, .int .i64 r3]) ∧ Below w.heap.size w w' := by
  unfold bin_Get.f at h
  by_cases hg : (∀ x ∈ l0, 0 ≤ x ∧ x < 256) ∧ l0.length < 140737488355328
  case neg => rw [if_neg hg] at h; cases h
  rw [if_pos hg] at h
  have H := Aside0.mk (Option.some.inj h)
  obtain ⟨hb, hlen⟩ := hg
  have HB := Aside0.mk hb
  have HR0 := Aside0.mk hr0
  clear h hr0 hb
  by_cases ha : a1 < 0
  · have H2 := H.out
    rw [if_pos (.inl ha)] at H2
    simp only [Prod.mk.injEq] at H2
    obtain ⟨rfl, rfl, rfl⟩ := H2
    clear H
    go_enter Tryd.func72, Tryd.ntmps72
    go_wp2_with fail
    go_ret3
    exact ⟨rfl, Below.refl _ _⟩
  by_cases ha2 : (l0.length : Int) < a1
  · have H2 := H.out
    rw [if_pos (.inr ha2)] at H2
    simp only [Prod.mk.injEq] at H2
    obtain ⟨rfl, rfl, rfl⟩ := H2
    clear H
    go_enter Tryd.func72, Tryd.ntmps72
    go_wp2_with fail
    go_ret3
    exact ⟨rfl, Below.refl _ _⟩
  have H2 := H.out
  rw [if_neg (by omega)] at H2
  obtain ⟨i5, hi5, hs5⟩ := Option.map_eq_some_iff.1 (show (Tryd.prog.info? 5).map (fun i => i.size) = some 1 by kernel_rfl)
  have hcut := cut_from (P := Tryd.prog) 45 5 .i64 (by kernel_rfl) hi5 1 hs5 A0 l0.length c0 a1 (by omega) (by omega)
  have hrow := Kd.C_drop HR0.out (show a1.toNat ≤ l0.length by omega) hc0
  have hc2 : l0.length - a1.toNat ≤ c0 - a1.toNat := by omega
  clear H
  have hz : (Kd.int .u8).sz = 1 := rfl
  rw [hz] at hrow
  have hml : (l0.drop a1.toNat).length = l0.length - a1.toNat := List.length_drop
  have HBR := Aside0.mk (show ∀ x ∈ l0.drop a1.toNat, 0 ≤ x ∧ x < 256 from fun x hx => HB.out x (List.mem_of_mem_drop hx))
  generalize hA : (if c0 = a1.toNat then A0 else A0.map (·.add (a1.toNat * 1))) = A1 at hcut hrow
  generalize hR : l0.drop a1.toNat = rest at *
  rw [← hml] at hcut hc2
  generalize c0 - a1.toNat = c1 at *
  have HR1 := Aside0.mk hrow
  have HH := Aside0.mk H2
  have hrl : rest.length < 140737488355328 := by omega
  have hi5 := Aside0.mk hi5
  clear hrow H2 hs5 hml
  go_enter Tryd.func72, Tryd.ntmps72
  go_wp2_with fail
  go_quiet (fail)
  go_wp2_with fail
  go_loopw [7, 27] (fun v7 v27 wr => GetInv rest a1 r1 r2 r3 (w.drewN nq) v7 v27 wr) (fun v7 v27 wr => (rest.length - (intOf v27).toNat))
  case atStart => exact ⟨0, 0, rest, rfl, rfl, rfl, by omega, by omega, rfl, by omega, by omega, HH.out⟩
  case round =>
    obtain ⟨u, k, t, rfl, rfl, rfl, hk, hkl, ht, hu, hu64, hlp⟩ := hrel.out
    by_cases hlt : k < rest.length
    · have hgk : rest[k]? = some (rest[k]) := List.getElem?_eq_getElem hlt
      generalize hcv : rest[k] = c at hgk
      have hcb := HBR.out c (by rw [← hcv]; exact List.getElem_mem hlt)
      have htc : t = c :: rest.drop (k + 1) := by rw [← ht, List.drop_eq_getElem_cons hlt, hcv]
      obtain ⟨b, o, hA1, hbb, hcells⟩ := cells_of_C (Kd.C_drewN HR1.out nq) (show 0 < rest.length by omega)
      have hcell := hcells k c hgk
      have hA0 := Aside0.mk hA
      clear hA
      subst hA1
      have H1 := Aside0.mk hcells
      have H2 := Aside0.mk ht
      have H3 := Aside0.mk hlp
      have H4 := Aside0.mk hu
      clear hcells ht hlp hu
      by_cases hk10 : k = 10
      · subst hk10
        have hr := H3.out
        rw [htc] at hr
        simp only [bin_Get.lp, if_true, Prod.mk.injEq] at hr
        obtain ⟨rfl, rfl, rfl⟩ := hr
        go_wp2_with fail
        go_ret3
        exact ⟨rfl, pw_below_drewN (Below.refl _ _) _⟩
      · by_cases hc128 : 128 ≤ c
        · go_wp2_with fail
          go_roundw
          case rel =>
            rw [step_u hcb.1 hcb.2 (show k < 10 by omega) H4.out]
            have hr := H3.out
            rw [htc] at hr
            simp only [bin_Get.lp, if_neg (show ¬ k = 10 by omega), if_pos (show 128 ≤ c by omega)] at hr
            have hp := H4.out
            exact ⟨_, k + 1, _, rfl, by push_cast; rfl, rfl, by omega, by omega, rfl, step_lt (show k < 10 by omega) hp, Nat.mod_lt _ (by decide), hr⟩
          case measure => simp [intOf]; omega
        · go_wp2_with fail
          rw [step_u hcb.1 hcb.2 (show k < 10 by omega) H4.out]
          have hU : (u + c.toNat % 128 * 2 ^ (7 * k)) % 18446744073709551616 < 18446744073709551616 := Nat.mod_lt _ (by decide)
          have hr := H3.out
          rw [htc] at hr
          simp only [bin_Get.lp, if_neg (show ¬ k = 10 by omega), if_neg (show ¬ 128 ≤ c by omega)] at hr
          generalize (u + c.toNat % 128 * 2 ^ (7 * k)) % 18446744073709551616 = U at hU hr ⊢
          rw [unz_step hU]
          obtain ⟨hn1, hn2⟩ := unz_in hU
          generalize unz U = n at hn1 hn2 hr ⊢
          have hten := vb_ten hn1 hn2
          have hml2 : (vb (zg n)).length = ((vb (zg n)).map fun d : Nat => (d : Int)).length := (List.length_map _).symm
          refine (bin_pieces.calls n _ hn1 hn2).mono ?_
          rintro e w1 ⟨rfl, hb1⟩
          have HG : Aside0 (∀ (j : Nat) x, ((vb (zg n)).map (fun d : Nat => (d : Int)))[j]? = some x → (arr (vb (zg n)))[0 + j]? = some (Value.int .u8 x)) := Aside0.mk (fun j x hj => arr_get hj)
          generalize (vb (zg n)).map (fun d : Nat => (d : Int)) = bs at hml2 HG hr ⊢
          rw [hml2]
          have HM := Aside0.mk hml2
          clear hml2
          have HT := Aside0.mk hten
          have HI : Aside0 ((Tryd.prog.info? 110).map (·.size) = some (arr (vb (zg n))).size) := Aside0.mk (by rw [arr_size hten]; kernel_rfl)
          have HS : Aside0 ((arr (vb (zg n))).size = 10) := Aside0.mk (arr_size hten)
          have HB1 := Aside0.mk hb1
          have HH5 := Aside0.mk hr
          clear hb1 hr
          go_wp2_with first
            | (refine wpList_store_row rfl 110 _ _ rfl _ (arr (vb (zg n))) rfl rfl 110 _ (heap_alloc_last _ _) HI.out (by rw [HS.out]; rfl) (arr_all _) ?_
               rw [World.setRow_alloc_new])
          have hml2 := HM.out
          have hcut2 := cut_to (P := Tryd.prog) 45 5 .i64 (by kernel_rfl) hi5.out (some ⟨b, o, none⟩) rest.length c1 ((k : Int) + 1) (by omega) (by omega) hc2
          have hcut1 : ∀ W : World, (Instr.sliceAt 110 (.pointer (some ⟨w1.heap.size, 0, none⟩)) none (some (.int .i64 (bs.length : Int))) none).run Tryd.prog W = .ok (.slice (some ⟨w1.heap.size, 0, none⟩) bs.length 10) W := fun W => run_sliceAt_to (e := 5) W (by kernel_rfl) (by kernel_rfl) (by rw [← hml2]; exact HT.out)
          have htl : (rest.take (k + 1)).length = k + 1 := by rw [List.length_take]; omega
          rw [show ((k : Int) + 1).toNat = k + 1 by omega, ← htl] at hcut2
          obtain ⟨ke, hke⟩ := equal_ev bs (rest.take (k + 1)) (by rw [← hml2]; have := HT.out; omega)
          have hcs : (w1.alloc (.cells (arr (vb (zg n))) 110)).heap[w1.heap.size]? = some (.cells (arr (vb (zg n))) 110 (0, 0)) := heap_alloc_last _ _
          have HK : Aside0 ((Kd.int .u8).C (w1.alloc (.cells (arr (vb (zg n))) 110)) (some ⟨w1.heap.size, 0, none⟩) bs.length bs) :=
            Aside0.mk (C_block (enc := Value.int .u8) (h1 := fun _ => rfl) hcs bs (by rw [← hml2]; have := HT.out; omega) HG.out)
          have HB2 : Aside0 (Below w.heap.size w (w1.alloc (.cells (arr (vb (zg n))) 110))) := Aside0.mk (below_alloc (below_step (pw_below_drewN (Below.refl _ _) nq) HB1.out) _)
          have HR2 : Aside0 ((Kd.int .u8).C (w1.alloc (.cells (arr (vb (zg n))) 110)) (some ⟨b, o, none⟩) (rest.take (k + 1)).length (rest.take (k + 1))) := Aside0.mk (Kd.C_take (Kd.C_below HR1.out HB2.out) (by omega))
          have HKE := Aside0.mk hke
          clear hcs hke
          have hz10 : bs.length ≤ 10 := by rw [← hml2]; exact HT.out
          have hzc : (rest.take (k + 1)).length ≤ c1 := by omega
          generalize (w1.alloc (.cells (arr (vb (zg n))) 110)) = w2 at HK HB2 HR2 ⊢
          clear HI HS hml2 hten
          generalize hts : rest.take (k + 1) = ts at *
          have HZ1 := Aside0.mk hz10
          have HZ2 := Aside0.mk hzc
          clear hts htl hz10 hzc
          have hwk : IntKind.i64.wrap ((k : Int) + 1) = (k : Int) + 1 := by rw [IntKind.wrap_i64]; omega
          go_quiet (first | (refine Calls.quiet_of (slices_Equal_byte_byte.calls ke (some ⟨w1.heap.size, 0, none⟩) 10 bs (some ⟨b, o, none⟩) c1 ts (decide (bs = ts)) _ (Kd.C_drewN HK.out _) HZ1.out (Kd.C_drewN HR2.out _) HZ2.out HKE.out |>.mono fun _ _ h => ⟨h.1, by obtain ⟨_, m, hm⟩ := h; exact ⟨m, hm⟩⟩)))
          have h5 := HH5.out
          by_cases he : bs = ts
          · rw [if_pos he] at h5
            simp only [Prod.mk.injEq] at h5
            obtain ⟨e1, e2, e3⟩ := h5
            rw [decide_eq_true he]
            clear he HKE
            go_wp2_with fail
            go_ret3
            rw [← e1, ← e2, ← e3]
            exact ⟨rfl, pw_below_drewN HB2.out nq⟩
          · rw [if_neg he] at h5
            simp only [Prod.mk.injEq] at h5
            obtain ⟨e1, e2, e3⟩ := h5
            rw [decide_eq_false he]
            clear he HKE
            go_wp2_with fail
            go_ret3
            rw [← e1, ← e2, ← e3]
            exact ⟨rfl, pw_below_drewN HB2.out nq⟩
    · have ht0 : t = [] := by rw [← ht]; exact List.drop_eq_nil_of_le (by omega)
      rw [ht0] at hlp
      simp only [bin_Get.lp, Prod.mk.injEq] at hlp
      obtain ⟨e1, e2, e3⟩ := hlp
      have E1 := Aside0.mk e1
      have E2 := Aside0.mk e2
      have E3 := Aside0.mk e3
      clear e1 e2 e3 ht ht0 hu
      by_cases h10 : 10 ≤ rest.length
      · have e3 := E3.out
        rw [if_pos h10] at e3
        go_wp2_with fail
        go_ret3
        rw [← E1.out, ← E2.out, ← e3]
        exact ⟨rfl, pw_below_drewN (Below.refl _ _) _⟩
      · have e3 := E3.out
        rw [if_neg h10] at e3
        go_wp2_with fail
        go_ret3
        rw [← E1.out, ← E2.out, ← e3]
        exact ⟨rfl, pw_below_drewN (Below.refl _ _) _⟩

end Go.Proofs.YtlnfaeegmcihfaaDoor.Q
