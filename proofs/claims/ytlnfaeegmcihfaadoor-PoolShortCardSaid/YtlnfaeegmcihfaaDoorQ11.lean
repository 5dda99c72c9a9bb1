-- Written by the program wip/tools/mp.py of this work, which drives the print of the kit; hand texts of this session among it.
import Derived.Test.YtlnfaeegmcihfaaDoorQ0
import Derived.Test.YtlnfaeegmcihfaaDoorQ2
import Derived.Test.YtlnfaeegmcihfaaDoorQ9
import Derived.Test.YtlnfaeegmcihfaaDoorQ10
namespace Go.Proofs.YtlnfaeegmcihfaaDoor.Q
open Go.RowKit Go.Proofs.HW Go.Proofs.YtlnfaeegmcihfaaDoorW.PrintWords Go.Proofs.YtlnfaeegmcihfaaDoorW.PrintLast
set_option linter.unusedVariables false
set_option linter.unusedSimpArgs false

-- HANDTEXT
/-! ### pool_Add: function 31, by hand -/
-- INNER
-- NEEDS hornbook/pool.Find
-- NEEDS hornbook/pool.Right
-- NEEDS slices.Clip[[]hornbook/api.Const,hornbook/api.Const]
def pool_Add.f (k : Nat) (l0 : List S40) (a1_0 : Int) (a1_1 : Int) (a1_2 : ByteArray) (a1_3 : ByteArray) (a1_4 : ByteArray) : Option (List S40 × Int × Int) :=
  (pool_Find.f k l0 a1_0 a1_1 a1_2 a1_3 a1_4).bind fun at_ => (pool_Right.f k a1_0 a1_1 a1_2 a1_3 a1_4).bind fun ok =>
    if ok = true then
      if 0 ≤ at_ then some (l0, at_, 0)
      else if 256 ≤ l0.length then some ([], 0, 17)
      else some (l0 ++ [⟨a1_0, a1_1, a1_2, a1_3, a1_4⟩], l0.length, 0)
    else some ([], 0, 11)
theorem pool_Add.flat : Flat k40 := fun w x cs h w' base ok => by rw [k40_open h]; exact k40_mkM w' base ok x
set_option maxHeartbeats 8000000 in
set_option maxRecDepth 100000 in
theorem pool_Add.calls (k : Nat) (A0 : Option Addr) (c0 : Nat) (l0 : List S40) (a1_0 : Int) (a1_1 : Int) (a1_2 : ByteArray) (a1_3 : ByteArray) (a1_4 : ByteArray) (r1 : List S40) (r2 r3 : Int) (w : World) (hr0 : Kd.C k40 w A0 l0.length l0) (hc0 : l0.length ≤ c0) (h : pool_Add.f k l0 a1_0 a1_1 a1_2 a1_3 a1_4 = some (r1, r2, r3)) :
    Calls Tryd.prog 31 #[.slice A0 l0.length c0, .agg #[.int .i64 a1_0, .int .i64 a1_1, .string a1_2, .string a1_3, .string a1_4]] w fun e w' => ∃ A c, e = .returned (.tuple #[.slice A r1.length c, .int .i64 r2, .int .i64 r3]) ∧ r1.length ≤ c ∧ Kd.C k40 w' A r1.length r1 ∧ Below w.heap.size w w' := by
  have HR0 := Aside0.mk hr0
  have HC0 := Aside0.mk hc0
  have hlen : l0.length ≤ 9223372036854775807 := hr0.2.1
  have HL0 := Aside0.mk hlen
  unfold pool_Add.f at h
  obtain ⟨at_, hat, h⟩ := Option.bind_eq_some_iff.1 h
  obtain ⟨ok, hok, h⟩ := Option.bind_eq_some_iff.1 h
  have HAT := Aside0.mk hat
  have HOK := Aside0.mk hok
  have HF := Aside0.mk h
  clear h hat hok hr0 hc0 hlen
  go_enter Tryd.func31, Tryd.ntmps31
  go_wp2_with fail
  refine (pool_Find.calls k A0 c0 l0 a1_0 a1_1 a1_2 a1_3 a1_4 at_ _ (Kd.C_alloc HR0.out _) HC0.out HAT.out).mono ?_
  rintro e w1 ⟨rfl, hb⟩
  have HB1 := Aside0.mk (below_step (below_alloc (Below.refl _ _) _) hb)
  have HBK := Aside0.mk ((hb.block w.heap.size (by simp)).trans (heap_alloc_last w _))
  clear hb
  go_wp2_with first
    | (refine wpList_load_row rfl 40 _ rfl w.heap.size rfl 40 _ (0, 0) _ HBK.out Tryd.underlying40 rfl (by kernel_rfl) ?_)
  refine (pool_Right.calls k a1_0 a1_1 a1_2 a1_3 a1_4 ok _ HOK.out).mono ?_
  rintro e w2 ⟨rfl, hb⟩
  have HB2 := Aside0.mk (below_step HB1.out hb)
  have HBK2 := Aside0.mk ((hb.block w.heap.size (blk_lt HBK.out)).trans HBK.out)
  clear hb
  cases ok with
  | false =>
    have hf := HF.out
    rw [if_neg (by decide)] at hf
    simp only [Option.some.injEq, Prod.mk.injEq] at hf
    obtain ⟨rfl, rfl, rfl⟩ := hf
    clear HF
    go_wp2_with fail
    go_ret3
    exact ⟨none, 0, rfl, Nat.le_refl _, Kd.C_nil _ _, HB2.out⟩
  | true =>
  have hf := HF.out
  rw [if_pos rfl] at hf
  by_cases hp : 0 ≤ at_
  · rw [if_pos hp] at hf
    simp only [Option.some.injEq, Prod.mk.injEq] at hf
    obtain ⟨rfl, rfl, rfl⟩ := hf
    clear HF
    go_wp2_with fail
    go_ret3
    exact ⟨A0, c0, rfl, HC0.out, Kd.C_below HR0.out HB2.out, HB2.out⟩
  rw [if_neg hp] at hf
  by_cases hl : 256 ≤ l0.length
  · rw [if_pos hl] at hf
    simp only [Option.some.injEq, Prod.mk.injEq] at hf
    obtain ⟨rfl, rfl, rfl⟩ := hf
    clear HF
    go_wp2_with fail
    go_ret3
    exact ⟨none, 0, rfl, Nat.le_refl _, Kd.C_nil _ _, HB2.out⟩
  · rw [if_neg hl] at hf
    simp only [Option.some.injEq, Prod.mk.injEq] at hf
    obtain ⟨rfl, rfl, rfl⟩ := hf
    clear HF
    go_wp2_with fail
    have HB3 := Aside0.mk (below_drew1 HB2.out)
    have HBK3 := Aside0.mk (show w2.drew.heap[w.heap.size]? = _ from HBK2.out)
    have hl3 : l0.length < 256 := by omega
    refine start_ (n := 10) (S := fun w' => w'.heap[w.heap.size]? = some (.cells #[.int .i64 a1_0, .int .i64 a1_1, .string a1_2, .string a1_3, .string a1_4] 40 (0, 0))) (ds := []) #[false, false, false, false, false, false, false, false, false, false] (by kernel_rfl) rfl rfl HBK3.out (fun hHeld => ?_)
    generalize w2.drew = w3 at HB3 HBK3 hHeld ⊢
    refine pure_ (i := 0) (N := some 24) (v := ?_) (a' := ?_) #[true, false, false, false, false, false, false, false, false, false] rfl rfl (by kernel_rfl) (fun _ _ _ h => h) (Or.inl ⟨by rfl, ?_⟩) ?_ ?_
    rotate_left
    · intro w'
      go_simp
      with_reducible rfl
    rotate_left
    · simp only [Act.put, List.setIfInBounds_toArray, List.set_cons_zero, List.set_cons_succ]
      rfl
    refine pure_ (i := 5) (N := some 29) (v := ?_) (a' := ?_) #[true, false, false, false, false, true, false, false, false, false] rfl rfl (by kernel_rfl) (fun _ _ _ h => h) (Or.inl ⟨by rfl, ?_⟩) ?_ ?_
    rotate_left
    · intro w'
      go_simp
      with_reducible rfl
    rotate_left
    · simp only [Act.put, List.setIfInBounds_toArray, List.set_cons_zero, List.set_cons_succ]
      rfl
    refine pure_ (i := 6) (N := some 30) (v := ?_) (a' := ?_) #[true, false, false, false, false, true, true, false, false, false] rfl rfl (by kernel_rfl) (fun _ _ _ h => h) (Or.inl ⟨by rfl, ?_⟩) ?_ ?_
    rotate_left
    · intro w'
      go_simp
      with_reducible rfl
    rotate_left
    · simp only [Act.put, List.setIfInBounds_toArray, List.set_cons_zero, List.set_cons_succ]
      rfl
    refine take_ (i := 2) (N := some 26) (v := .agg #[.int .i64 a1_0, .int .i64 a1_1, .string a1_2, .string a1_3, .string a1_4]) (a' := ?_) #[true, false, true, false, false, true, true, false, false, false] rfl rfl (by kernel_rfl) (fun _ _ _ h => h) (Or.inl ⟨by rfl, ?_⟩) hHeld ?_ ?_
    · intro w' hw'
      have d0 := (blk_cell hw' 0).trans rfl
      have d1 := (blk_cell hw' 1).trans rfl
      have d2 := (blk_cell hw' 2).trans rfl
      have d3 := (blk_cell hw' 3).trans rfl
      have d4 := (blk_cell hw' 4).trans rfl
      first | (go_simp; done) | (go_simp; with_reducible rfl)
    rotate_left
    · simp only [Act.put, List.setIfInBounds_toArray, List.set_cons_zero, List.set_cons_succ]
      rfl
    refine join_ (σ := Unit) 4 #[true, true, true, true, false, true, true, false, false, false] (fun _ => [(25, .slice A0 l0.length l0.length), (27, .slice (some ⟨w3.heap.size, 0, none⟩) 1 1)]) (fun _ w' => w' = w3.alloc (.cells #[.int .i64 a1_0, .int .i64 a1_1, .string a1_2, .string a1_3, .string a1_4] 40)) ?_ ?_
    · rintro _ w4 rfl
      have HC4 := Aside0.mk (show Kd.C k40 (w3.alloc (.cells #[.int .i64 a1_0, .int .i64 a1_1, .string a1_2, .string a1_3, .string a1_4] 40)) A0 l0.length l0 from Kd.C_below HR0.out (below_alloc HB3.out _))
      have HY4 := Aside0.mk (show Kd.C k40 (w3.alloc (.cells #[.int .i64 a1_0, .int .i64 a1_1, .string a1_2, .string a1_3, .string a1_4] 40)) (some ⟨w3.heap.size, 0, none⟩) 1 [⟨a1_0, a1_1, a1_2, a1_3, a1_4⟩] from
        ⟨rfl, by omega, fun _ => ⟨_, rfl, fun j p hj => by
          cases j with
          | succ j => simp at hj
          | zero =>
            simp at hj
            subst hj
            refine ⟨_, rfl, k40_mk _ ⟨a1_0, a1_1, a1_2, a1_3, a1_4⟩, fun i u hu => ?_⟩
            have he : (⟨w3.heap.size, 0, none⟩ : Addr).add (0 * k40.sz + i) = ⟨w3.heap.size, i, none⟩ := by
              unfold Addr.add; split <;> simp_all
            rw [he, blk_cell (heap_alloc_last w3 _) i]
            simpa using hu⟩⟩)
      have HH4 := Aside0.mk (show (w3.alloc (.cells #[.int .i64 a1_0, .int .i64 a1_1, .string a1_2, .string a1_3, .string a1_4] 40)).heap[w.heap.size]? = some (.cells #[.int .i64 a1_0, .int .i64 a1_1, .string a1_2, .string a1_3, .string a1_4] 40 (0, 0)) from (Below.heap_alloc _ _ _ (blk_lt HBK3.out)).trans HBK3.out)
      have HB4 := Aside0.mk (below_alloc HB3.out (.cells #[.int .i64 a1_0, .int .i64 a1_1, .string a1_2, .string a1_3, .string a1_4] 40))
      generalize (w3.alloc (.cells #[.int .i64 a1_0, .int .i64 a1_1, .string a1_2, .string a1_3, .string a1_4] 40)) = w4 at HC4 HY4 HB4 HH4 ⊢
      refine norm_ (a' := ?_) ?_ ?_
      rotate_left
      · simp only [putAll, Act.put, List.setIfInBounds_toArray, List.set_cons_zero, List.set_cons_succ]
        rfl
      have HBK4 := Aside0.mk (show w4.heap[w.heap.size]? = _ from HH4.out)
      refine one_ (i := 4) (N := some 28) #[true, true, true, true, true, true, true, false, false, false] rfl rfl (by kernel_rfl) (by decide) (fun K hK => ?_)
      refine R_append_clip_step k40 pool_Add.flat (some 28) rfl (by rfl) _ _ 37 40 (.agg #[(.int .i64 0), (.int .i64 0), (.string ⟨#[]⟩), (.string ⟨#[]⟩), (.string ⟨#[]⟩)]) 64 rfl (by kernel_rfl) info40 rfl (by decide) (by decide) l0 _ A0 (some ⟨w3.heap.size, 0, none⟩) l0.length 1 1 rfl rfl HC4.out HY4.out (by decide) (by omega) ?_
      intro v1 w5 hR hb5 hg
      refine hK _ _ ((hb5.block _ (blk_lt HBK4.out)).trans HBK4.out) (fun _ => ?_)
      refine pure_ (i := 7) (N := some 4) (v := ?_) (a' := ?_) #[true, true, true, true, true, true, true, true, false, false] rfl rfl (by kernel_rfl) (fun _ _ _ h => h) (Or.inl ⟨by rfl, ?_⟩) ?_ ?_
      rotate_left
      · intro w'
        go_simp
        with_reducible rfl
      rotate_left
      · simp only [Act.put, List.setIfInBounds_toArray, List.set_cons_zero, List.set_cons_succ]
        rfl
      refine pure_ (i := 8) (N := some 5) (v := ?_) (a' := ?_) #[true, true, true, true, true, true, true, true, true, false] rfl rfl (by kernel_rfl) (fun _ _ _ h => h) (Or.inl ⟨by rfl, ?_⟩) ?_ ?_
      rotate_left
      · intro w'
        go_simp
        with_reducible rfl
      rotate_left
      · simp only [Act.put, List.setIfInBounds_toArray, List.set_cons_zero, List.set_cons_succ]
        rfl
      refine pure_ (i := 9) (N := some 6) (v := ?_) (a' := ?_) #[true, true, true, true, true, true, true, true, true, true] rfl rfl (by kernel_rfl) (fun _ _ _ h => h) (Or.inl ⟨by rfl, ?_⟩) ?_ ?_
      rotate_left
      · intro w'
        go_simp
        with_reducible rfl
      rotate_left
      · simp only [Act.put, List.setIfInBounds_toArray, List.set_cons_zero, List.set_cons_succ]
        rfl
      refine done_ (by kernel_rfl) ?_
      have HR5 := Aside0.mk hR
      have HB5 := Aside0.mk (below_step HB4.out hb5)
      clear hR hb5 hg
      obtain ⟨A5, c5, rfl, hl5, hC5⟩ := Kd.R_reads HR5.out
      go_wp2_with fail
      go_ret3
      exact ⟨A5, c5, rfl, hl5, hC5, HB5.out⟩
    · intro hc
      refine two_ (i := 1) (j := 3) (Ni := some 25) (Nj := some 27) #[true, true, true, false, false, true, true, false, false, false] #[true, false, true, true, false, true, true, false, false, false] rfl rfl rfl rfl (by kernel_rfl) (by decide) (by decide) (fun K hK => ?_) (fun K hK => ?_)
      · skip
        refine goes_ Tryd.func63 (by kernel_rfl) rfl #[.slice A0 l0.length c0] (by rfl) rfl rfl (by (try simp only [List.map_toArray, List.map_cons, List.map_nil]); rfl) ?_
        refine (api_Const_63.calls A0 l0.length c0 _ HC0.out HL0.out).mono ?_
        rintro e w6 ⟨rfl, rfl⟩
        refine ⟨_, rfl, ?_⟩
        refine hK _ _ hHeld (fun _ => ?_)
        refine norm_ (a' := ?_) ?_ ?_
        rotate_left
        · simp only [Act.put, List.setIfInBounds_toArray, List.set_cons_zero, List.set_cons_succ]
          rfl
        refine one_ (i := 3) (N := some 27) #[true, true, true, true, false, true, true, false, false, false] rfl rfl (by kernel_rfl) (by decide) (fun K hK => ?_)
        refine value_ (w1 := ?_) (v := ?_) (by rfl) rfl ?_ ?_
        rotate_left 2
        · go_simp
          constructor
          · rfl
          · rfl
        refine hK _ _ ((Below.heap_alloc _ _ _ (blk_lt HBK3.out)).trans HBK3.out) (fun _ => ?_)
        have hcc := hc () _ rfl
        simp only [putAll, Act.put, List.setIfInBounds_toArray, List.set_cons_zero, List.set_cons_succ] at hcc ⊢
        exact hcc
      · skip
        refine value_ (w1 := ?_) (v := ?_) (by rfl) rfl ?_ ?_
        rotate_left 2
        · go_simp
          constructor
          · rfl
          · rfl
        refine hK _ _ ((Below.heap_alloc _ _ _ (blk_lt HBK3.out)).trans HBK3.out) (fun _ => ?_)
        refine norm_ (a' := ?_) ?_ ?_
        rotate_left
        · simp only [Act.put, List.setIfInBounds_toArray, List.set_cons_zero, List.set_cons_succ]
          rfl
        refine one_ (i := 1) (N := some 25) #[true, true, true, true, false, true, true, false, false, false] rfl rfl (by kernel_rfl) (by decide) (fun K hK => ?_)
        refine goes_ Tryd.func63 (by kernel_rfl) rfl #[.slice A0 l0.length c0] (by rfl) rfl rfl (by (try simp only [List.map_toArray, List.map_cons, List.map_nil]); rfl) ?_
        refine (api_Const_63.calls A0 l0.length c0 _ HC0.out HL0.out).mono ?_
        rintro e w6 ⟨rfl, rfl⟩
        refine ⟨_, rfl, ?_⟩
        refine hK _ _ ((Below.heap_alloc _ _ _ (blk_lt HBK3.out)).trans HBK3.out) (fun _ => ?_)
        have hcc := hc () _ rfl
        simp only [putAll, Act.put, List.setIfInBounds_toArray, List.set_cons_zero, List.set_cons_succ] at hcc ⊢
        exact hcc
theorem pool_Add.mono (l0 : List S40) (a1_0 : Int) (a1_1 : Int) (a1_2 : ByteArray) (a1_3 : ByteArray) (a1_4 : ByteArray) (k : Nat) : LeO (pool_Add.f k l0 a1_0 a1_1 a1_2 a1_3 a1_4) (pool_Add.f (k + 1) l0 a1_0 a1_1 a1_2 a1_3 a1_4) := by
  intro r h
  unfold pool_Add.f at h ⊢
  obtain ⟨x, hx, h⟩ := Option.bind_eq_some_iff.1 h
  obtain ⟨y, hy, h⟩ := Option.bind_eq_some_iff.1 h
  exact Option.bind_eq_some_iff.2 ⟨x, pool_Find.mono _ _ _ _ _ _ _ _ hx, Option.bind_eq_some_iff.2 ⟨y, pool_Right.mono _ _ _ _ _ _ _ hy, h⟩⟩

end Go.Proofs.YtlnfaeegmcihfaaDoor.Q
