/- Layer 1: numbers as bytes, there and back. -/
import Derived.Test.YtlnfaeegmcihfaaDoorQ15
import Derived.Test.YtlnfaeegmcihfaaDoorQ16
import Derived.Test.YtlnfaeegmcihfaaDoorQ22
import Derived.Test.YtlnfaeegmcihfaaDoorQ23
import Derived.Test.YtlnfaeegmcihfaaDoorQP0
set_option linter.unusedVariables false
set_option linter.unusedSimpArgs false
namespace Go.Proofs.PL
open Go.RowKit Go.Proofs.YtlnfaeegmcihfaaDoorW.PrintWords Go.Proofs.YtlnfaeegmcihfaaDoor.Q

def encN (n : Int) : List Int := (vb (zg n)).map (fun d : Nat => (d : Int))
def i64 (n : Int) : Prop := -9223372036854775808 ≤ n ∧ n ≤ 9223372036854775807
def byt (l : List Int) : Prop := ∀ x ∈ l, 0 ≤ x ∧ x < 256

theorem vb_byte : ∀ (m u : Nat), u ≤ m → ∀ x ∈ (vb u).map (fun d : Nat => (d : Int)), 0 ≤ x ∧ x < 256
  | m, u, hm => by
    by_cases h : u < 128
    · rw [vb_small h]; intro x hx; simp at hx; omega
    · rw [vb_big (by omega)]
      intro x hx
      simp only [List.map_cons, List.mem_cons] at hx
      rcases hx with rfl | hx
      · omega
      · match m with
        | 0 => omega
        | m + 1 => exact vb_byte m (u / 128) (by omega) x hx
theorem encN_byte (n : Int) : byt (encN n) := fun x hx => vb_byte _ _ (Nat.le_refl _) x hx
theorem encN_pos (n : Int) : 1 ≤ (encN n).length := by unfold encN; rw [List.length_map]; exact vb_pos _
theorem encN_ten {n : Int} (h : i64 n) : (encN n).length ≤ 10 := by unfold encN; rw [List.length_map]; exact vb_ten h.1 h.2
theorem unz_zg {n : Int} : unz (zg n) = n := by
  unfold zg unz
  by_cases h : 0 ≤ n
  · rw [if_pos h, if_pos (by omega)]; omega
  · rw [if_neg h, if_neg (by omega)]; omega

theorem lp_enc (rest : List Int) (a1 : Int) (t : List Int) : ∀ (m u k acc : Nat), u ≤ m → k + (vb u).length ≤ 10 → acc + u * 2 ^ (7 * k) < 18446744073709551616 →
    bin_Get.lp rest a1 ((vb u).map (fun d : Nat => (d : Int)) ++ t) k acc =
      if encN (unz (acc + u * 2 ^ (7 * k))) = rest.take (k + (vb u).length) then (unz (acc + u * 2 ^ (7 * k)), a1 + ((k + (vb u).length : Nat) : Int), 0) else (0, 0, 5)
  | m, u, k, acc, hm, hk, hu => by
    by_cases h : u < 128
    · rw [vb_small h] at hk ⊢
      simp only [List.map_cons, List.map_nil, List.cons_append, List.nil_append, List.length_singleton] at hk ⊢
      unfold bin_Get.lp
      rw [if_neg (by omega), if_neg (by omega), Int.toNat_natCast, Nat.mod_eq_of_lt h, Nat.mod_eq_of_lt hu]
      have e : a1 + (k : Int) + 1 = a1 + ((k + 1 : Nat) : Int) := by push_cast; omega
      rw [e]
      rfl
    · have hp := vb_pos (u / 128)
      rw [vb_big (by omega)] at hk ⊢
      simp only [List.map_cons, List.cons_append, List.length_cons] at hk ⊢
      unfold bin_Get.lp
      have hmod : (((u % 128 + 128 : Nat) : Int)).toNat % 128 = u % 128 := by rw [Int.toNat_natCast]; omega
      have hpow : 2 ^ (7 * (k + 1)) = 128 * 2 ^ (7 * k) := by rw [show 7 * (k + 1) = 7 + 7 * k by omega, Nat.pow_add]
      have hsum : acc + u % 128 * 2 ^ (7 * k) + u / 128 * 2 ^ (7 * (k + 1)) = acc + u * 2 ^ (7 * k) := by
        rw [hpow, ← Nat.mul_assoc, Nat.add_assoc, ← Nat.add_mul]
        congr 2
        omega
      have hlt : acc + u % 128 * 2 ^ (7 * k) < 18446744073709551616 := by
        refine Nat.lt_of_le_of_lt ?_ hu
        rw [← hsum]; omega
      rw [if_neg (by omega), if_pos (by omega), hmod, Nat.mod_eq_of_lt hlt]
      match m with
      | 0 => omega
      | m + 1 =>
        rw [lp_enc rest a1 t m (u / 128) (k + 1) _ (by omega) (by omega) (by rw [hsum]; exact hu), hsum]
        rw [show k + 1 + (vb (u / 128)).length = k + ((vb (u / 128)).length + 1) by omega]
theorem get_enc {n : Int} (hn : i64 n) (l t : List Int) (hb : byt (l ++ (encN n ++ t))) (hl : (l ++ (encN n ++ t)).length < 140737488355328) :
    bin_Get.f (l ++ (encN n ++ t)) l.length = some (n, ((l.length + (encN n).length : Nat) : Int), 0) := by
  unfold bin_Get.f
  rw [if_pos ⟨hb, hl⟩, if_neg (by simp; omega), Int.toNat_natCast, List.drop_left]
  have h10 := encN_ten hn
  have hz := zg_lt hn.1 hn.2
  have e := lp_enc (encN n ++ t) l.length t (zg n) (zg n) 0 0 (Nat.le_refl _) (by unfold encN at h10; rw [List.length_map] at h10; omega) (by simpa using hz)
  simp only [Nat.mul_zero, Nat.pow_zero, Nat.mul_one, Nat.zero_add] at e
  rw [unz_zg] at e
  have hlen : (vb (zg n)).length = (encN n).length := by unfold encN; rw [List.length_map]
  rw [hlen, List.take_left, if_pos rfl] at e
  show some (bin_Get.lp (encN n ++ t) l.length (encN n ++ t) 0 0) = _
  rw [show encN n ++ t = (vb (zg n)).map (fun d : Nat => (d : Int)) ++ t from rfl] at e ⊢
  rw [e]
  push_cast
  rfl
theorem lp_short (rest : List Int) (a1 : Int) (hr : rest.length < 10) : ∀ (p : List Int) (k acc : Nat), (∀ x ∈ p, 128 ≤ x) → k + p.length < 10 → bin_Get.lp rest a1 p k acc = (0, 0, 4)
  | [], k, acc, _, _ => by unfold bin_Get.lp; rw [if_neg (by omega)]
  | c :: p, k, acc, h, hk => by
    unfold bin_Get.lp
    simp only [List.length_cons] at hk
    rw [if_neg (by omega), if_pos (h c List.mem_cons_self)]
    exact lp_short rest a1 hr p (k + 1) _ (fun x hx => h x (List.mem_cons_of_mem _ hx)) (by omega)
theorem vb_front : ∀ (m u : Nat), u ≤ m → ∀ x ∈ ((vb u).map (fun d : Nat => (d : Int))).dropLast, 128 ≤ x
  | m, u, hm => by
    by_cases h : u < 128
    · rw [vb_small h]; intro x hx; simp at hx
    · have hp := vb_pos (u / 128)
      rw [vb_big (by omega)]
      intro x hx
      rw [List.map_cons, List.dropLast_cons_of_ne_nil (by intro e; have := congrArg List.length e; rw [List.length_map, List.length_nil] at this; omega)] at hx
      rcases List.mem_cons.1 hx with rfl | hx
      · omega
      · match m with
        | 0 => omega
        | m + 1 => exact vb_front m (u / 128) (by omega) x hx
/-- A number's bytes without the last one are none. -/
theorem get_short {n : Int} (hn : i64 n) (l : List Int) (hb : byt l) (hl : l.length + 10 < 140737488355328) :
    bin_Get.f (l ++ (encN n).dropLast) l.length = some (0, 0, 4) := by
  unfold bin_Get.f
  have h10 := encN_ten hn
  have hp := encN_pos n
  have hd : (encN n).dropLast.length = (encN n).length - 1 := List.length_dropLast
  have hbb : ∀ x ∈ l ++ (encN n).dropLast, 0 ≤ x ∧ x < 256 := by
    intro x hx
    rcases List.mem_append.1 hx with h | h
    · exact hb x h
    · exact encN_byte n x (List.dropLast_subset _ h)
  rw [if_pos ⟨hbb, by rw [List.length_append]; omega⟩, if_neg (by simp; omega), Int.toNat_natCast, List.drop_left]
  have e := lp_short (encN n).dropLast l.length (by omega) (encN n).dropLast 0 0 (fun x hx => vb_front _ _ (Nat.le_refl _) x hx) (by omega)
  rw [e]
end Go.Proofs.PL
