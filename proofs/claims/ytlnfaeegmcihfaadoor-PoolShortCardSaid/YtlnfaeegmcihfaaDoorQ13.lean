-- Written by the program wip/tools/mp.py of this work, which drives the print of the kit; hand texts of this session among it.
import Derived.Test.YtlnfaeegmcihfaaDoorQ0
import Derived.Test.YtlnfaeegmcihfaaDoorHA
namespace Go.Proofs.YtlnfaeegmcihfaaDoor.Q
open Go.RowKit Go.Proofs.HW Go.Proofs.YtlnfaeegmcihfaaDoorW.PrintWords Go.Proofs.YtlnfaeegmcihfaaDoorW.PrintLast
set_option linter.unusedVariables false
set_option linter.unusedSimpArgs false

-- HANDTEXT
/-! ### bin_pieces: function 95, by hand -/
-- INNER
-- IMPORT Derived.Test.YtlnfaeegmcihfaaDoorHA
def vb (u : Nat) : List Nat := if u < 128 then [u] else (u % 128 + 128) :: vb (u / 128)
termination_by u
decreasing_by omega
def zg (n : Int) : Nat := if 0 ≤ n then (2 * n).toNat else (-(2 * n) - 1).toNat
def arr (ds : List Nat) : Array Value := ((ds.map fun d : Nat => Value.int .u8 (d : Int)) ++ List.replicate (10 - ds.length) (Value.int .u8 0)).toArray
structure PcInv (Z : Nat) (w : World) (v4 v6 : Value) (wr : World) : Prop where
  mk :: (out : ∃ (u k : Nat) (ds : List Nat), v4 = .int .u64 u ∧ v6 = .int .i64 k ∧ ds.length = k ∧ vb Z = ds ++ vb u ∧ k + (vb u).length ≤ 10 ∧ u < 18446744073709551616 ∧
    wr.heap[w.heap.size + 1]? = some (.cells (arr ds) 110 (0, 0)) ∧ wr.heap[w.heap.size]? = some (.cells (arr []) 110 (0, 0)) ∧ Below w.heap.size w wr)
theorem vb_small {u : Nat} (h : u < 128) : vb u = [u] := by rw [vb]; simp [h]
theorem vb_big {u : Nat} (h : 128 ≤ u) : vb u = (u % 128 + 128) :: vb (u / 128) := by rw [vb, if_neg (by omega)]
theorem vb_pos (u : Nat) : 1 ≤ (vb u).length := by rw [vb]; split <;> simp
theorem vb_len : ∀ (m u : Nat), u < 128 ^ (m + 1) → (vb u).length ≤ m + 1
  | 0, u, h => by rw [vb_small (by simpa using h)]; simp
  | m + 1, u, h => by
    by_cases hu : u < 128
    · rw [vb_small hu]; simp
    · rw [vb_big (by omega)]
      have := vb_len m (u / 128) (by rw [Nat.div_lt_iff_lt_mul (by decide)]; rw [Nat.pow_succ] at h; exact h)
      simp; omega
theorem arr_size {ds : List Nat} (h : ds.length ≤ 10) : (arr ds).size = 10 := by simp [arr]; omega
theorem arr_at {ds : List Nat} {k : Nat} (h : ds.length ≤ k) (hk : k < 10) : (arr ds)[k]? = some (Value.int .u8 0) := by
  simp only [arr, List.getElem?_toArray]
  rw [List.getElem?_append_right (by simpa using h), List.getElem?_replicate, if_pos (by simp; omega)]
theorem arr_put {ds : List Nat} {k d : Nat} (h : ds.length = k) (hk : k < 10) : (arr ds).set! k (.int .u8 (d : Int)) = arr (ds ++ [d]) := by
  subst h
  simp only [arr, Array.set!_eq_setIfInBounds, List.setIfInBounds_toArray]
  congr 1
  rw [List.set_append_right _ _ (by simp)]
  have : 10 - ds.length = (10 - (ds ++ [d]).length) + 1 := by simp; omega
  rw [this, List.replicate_succ]
  simp
theorem u8_or (x : Nat) : bits .or .u8 ((x : Int) % 256) 128 = ((x % 128 + 128 : Nat) : Int) := by
  have h := (bits_nat .u8 8 (by decide) wraps_u8 (x % 256) 128 (by omega) (by decide)).2
  have h2 : x % 256 ||| 128 = x % 128 + 128 := by
    have : ∀ y : Fin 256, (y : Nat) ||| 128 = y % 128 + 128 := by set_option maxRecDepth 100000 in decide
    have := this ⟨x % 256, by omega⟩
    simp only at this
    rw [this]; omega
  rw [h2] at h
  rw [← h]; rfl
theorem arr_all (ds : List Nat) : (arr ds).all (·.oneCell') = true := by
  rw [Array.all_eq_true_iff_forall_mem]
  intro v hv
  simp only [arr, List.mem_toArray, List.mem_append, List.mem_map, List.mem_replicate] at hv
  rcases hv with ⟨d, _, rfl⟩ | ⟨_, rfl⟩ <;> rfl
theorem xor_zero (a : Int) (h : 0 ≤ a) (h2 : a < 18446744073709551616) : bits .xor .u64 a 0 = a := by
  obtain ⟨x, rfl⟩ := Int.eq_ofNat_of_zero_le h
  simp only [bits, BitVec.ofInt_natCast]
  have e : (BitVec.ofNat 64 x ^^^ BitVec.ofInt 64 0) = BitVec.ofNat 64 x := by simp
  show IntKind.u64.wrap (((BitVec.ofNat 64 x ^^^ BitVec.ofInt 64 0).toNat : Nat) : Int) = x
  rw [e, BitVec.toNat_ofNat, Nat.mod_eq_of_lt (by omega)]
  exact PlainAid.u64_nonneg (by omega) (by omega)
theorem xor_ones (a : Int) (h : 0 ≤ a) (h2 : a < 18446744073709551616) : bits .xor .u64 a 18446744073709551615 = 18446744073709551615 - a := by
  obtain ⟨x, rfl⟩ := Int.eq_ofNat_of_zero_le h
  simp only [bits, BitVec.ofInt_natCast]
  have := BitVec.toNat_not (x := BitVec.ofNat 64 x)
  rw [← BitVec.xor_allOnes] at this
  show IntKind.u64.wrap (((BitVec.ofNat 64 x ^^^ BitVec.allOnes 64).toNat : Nat) : Int) = _
  rw [this, BitVec.toNat_ofNat, Nat.mod_eq_of_lt (by omega)]
  rw [PlainAid.u64_nonneg (by omega) (by omega)]
  omega
set_option maxRecDepth 100000 in
theorem bin_pieces.calls (n : Int) (w : World) (hn : -9223372036854775808 ≤ n) (hn2 : n ≤ 9223372036854775807) :
    Calls Tryd.prog 95 #[.int .i64 n] w fun e w' => e = .returned (.tuple #[.agg (arr (vb (zg n))), .int .i64 (vb (zg n)).length]) ∧ Below w.heap.size w w' := by
  go_enter Tryd.func95, Tryd.ntmps95
  go_wp2_with fail
  go_loopw [4, 6] (fun v4 v6 wr => PcInv (zg n) w v4 v6 wr) (fun v4 v6 wr => (intOf v4).toNat)
  case atStart =>
    have hx : bits .xor .u64 (IntKind.u64.wrap (IntKind.u64.wrap n * 2)) (IntKind.u64.wrap (n / 9223372036854775808)) = (zg n : Int) := by
      unfold zg
      by_cases h0 : 0 ≤ n
      · rw [if_pos h0, PlainAid.shr63_nonneg h0 hn2, PlainAid.u64_nonneg h0 (by omega), PlainAid.u64_nonneg (by omega) (by omega), PlainAid.u64_nonneg (by omega) (by omega), xor_zero _ (by omega) (by omega)]; omega
      · rw [if_neg h0, PlainAid.shr63_neg (by omega) hn, PlainAid.u64_neg (n := n) (by omega) (by omega), PlainAid.u64_neg (n := -1) (by omega) (by omega)]
        rw [show IntKind.u64.wrap ((n + 18446744073709551616) * 2) = n * 2 + 18446744073709551616 by rw [IntKind.wrap_u64]; omega]
        rw [show (-1 : Int) + 18446744073709551616 = 18446744073709551615 by rfl, xor_ones _ (by omega) (by omega)]; omega
    rw [hx]
    have hz : zg n < 18446744073709551616 := by unfold zg; split <;> omega
    exact ⟨zg n, 0, [], rfl, rfl, rfl, rfl, by have := vb_len 9 (zg n) (by omega); omega, hz, heap_alloc2_new _ _ _, heap_alloc2_old _ _ _, ((Below.refl _ w).alloc (Nat.le_refl _) _).alloc (by simp) _⟩
  case round =>
    obtain ⟨u, k, ds, rfl, rfl, hk, hv, hl, hu64, hb, hr, hB⟩ := hrel.out
    have hsz : w.heap.size + 1 < wr.heap.size := (Array.getElem?_eq_some_iff.1 hb).1
    by_cases hu : 128 ≤ u
    · have hk9 : k + 1 < 10 := by rw [vb_big hu] at hl; have := vb_pos (u / 128); simp at hl; omega
      have hk10 : k < 10 := by omega
      have hc : wr.cell? ⟨w.heap.size + 1, k, none⟩ = some (.int .u8 0) := by
        simp [World.cell?, hb, arr_at (by omega : ds.length ≤ k) hk10]
      have hf : wr.frozen? ⟨w.heap.size + 1, k, none⟩ = false := by simp [World.frozen?, hb]
      have H1 := Aside0.mk hb
      have H2 := Aside0.mk hr
      have H3 := Aside0.mk hB
      have H4 := Aside0.mk hv
      have H5 := Aside0.mk hl
      have H6 := Aside0.mk hk
      clear hb hr hB hv hl hk
      go_wp2_with fail
      go_roundw
      case rel =>
        refine ⟨u / 128, k + 1, ds ++ [u % 128 + 128], by push_cast; rfl, by push_cast; rfl, by rw [List.length_append, H6.out]; rfl, by rw [H4.out, vb_big hu]; simp, by have := H5.out; rw [vb_big hu] at this; simp at this; omega, by omega, ?_, ?_, ?_⟩
        · rw [heap_setCell_same _ _ _ _ _ _ H1.out, ← arr_put H6.out hk10, u8_or]; rw [Array.set!_eq_setIfInBounds]
        · rw [heap_setCell_other _ _ _ _ (by simp)]; exact H2.out
        · exact H3.out.setCell (Nat.le_succ _) _
      case measure => simp [intOf]; omega
    · have hv2 : vb (zg n) = ds ++ [u] := by rw [hv, vb_small (by omega)]
      have hk10 : k < 10 := by rw [vb_small (by omega)] at hl; simp at hl; omega
      have hc : wr.cell? ⟨w.heap.size + 1, k, none⟩ = some (.int .u8 0) := by
        simp [World.cell?, hb, arr_at (by omega : ds.length ≤ k) hk10]
      have hf : wr.frozen? ⟨w.heap.size + 1, k, none⟩ = false := by simp [World.frozen?, hb]
      have H1 := Aside0.mk hb
      have H2 := Aside0.mk hr
      have H3 := Aside0.mk hB
      have H4 := Aside0.mk hv
      have H5 := Aside0.mk hl
      have H6 := Aside0.mk hk
      clear hb hr hB hv hl hk
      have hb2 : (wr.setCell ⟨w.heap.size + 1, k, none⟩ (.int .u8 (u : Int))).heap[w.heap.size + 1]? = some (.cells (arr (ds ++ [u])) 110 (0, 0)) := by
        rw [heap_setCell_same _ _ _ _ _ _ H1.out, ← arr_put H6.out hk10]; rw [Array.set!_eq_setIfInBounds]
      have hr2 : (wr.setCell ⟨w.heap.size + 1, k, none⟩ (.int .u8 (u : Int))).heap[w.heap.size]? = some (.cells (arr []) 110 (0, 0)) := by
        rw [heap_setCell_other _ _ _ _ (by simp)]; exact H2.out
      have hB2 : Below w.heap.size w (wr.setCell ⟨w.heap.size + 1, k, none⟩ (.int .u8 (u : Int))) := H3.out.setCell (Nat.le_succ _) _
      have hs2 : (arr (ds ++ [u])).size = 10 := arr_size (by rw [List.length_append, H6.out]; simp; omega)
      have hi : (Tryd.prog.info? 110).map (·.size) = some (arr (ds ++ [u])).size := by rw [hs2]; kernel_rfl
      have H7 := Aside0.mk hb2
      have H8 := Aside0.mk hr2
      have H9 := Aside0.mk hB2
      have H10 := Aside0.mk hi
      have H11 := Aside0.mk hs2
      clear hb2 hr2 hB2 hi hs2
      go_wp2_with first
        | (refine wpList_load_row rfl 110 _ rfl (w.heap.size + 1) rfl 110 _ (0, 0) (.array 10 5) H7.out (by kernel_rfl) rfl H10.out ?_)
        | (refine wpList_store_row rfl 110 _ _ rfl w.heap.size (arr (ds ++ [u])) rfl rfl 110 (arr []) H8.out H10.out (by rw [H11.out]; rfl) (arr_all _) ?_)
      have hst := setRow_heap _ w.heap.size (arr []) (arr (ds ++ [u])) 110 (0, 0) H8.out
      refine ⟨rfl, _, results_cell_q (fn := Tryd.f95) (p := 2) (q := 3) (ty := 110) rfl _ _ w.heap.size 110 (arr (ds ++ [u])) (0, 0) (.array 10 5) rfl hst (by kernel_rfl) rfl H10.out, ?_, HW.Below.setRow0 H9.out (Nat.le_refl _) _⟩
      rw [hv2, List.length_append, H6.out]
      rfl

end Go.Proofs.YtlnfaeegmcihfaaDoor.Q
