-- Written by the program wip/tools/mp.py of this work, which drives the print of the kit; hand texts of this session among it.
import Derived.Test.YtlnfaeegmcihfaaDoorQ0
import Derived.Test.YtlnfaeegmcihfaaDoorQ13
import Derived.Test.YtlnfaeegmcihfaaDoorQ14
namespace Go.Proofs.YtlnfaeegmcihfaaDoor.Q
open Go.RowKit Go.Proofs.HW Go.Proofs.YtlnfaeegmcihfaaDoorW.PrintWords Go.Proofs.YtlnfaeegmcihfaaDoorW.PrintLast
set_option linter.unusedVariables false
set_option linter.unusedSimpArgs false

-- HANDTEXT
/-! ### bin_Put: function 77, by hand -/
-- NEEDS hornbook/bin.pieces
-- NEEDS slices.Clip[[]byte,byte]
def bin_Put.f (l0 : List Int) (a1 : Int) : Option (List Int) :=
  if -9223372036854775808 ≤ a1 ∧ a1 ≤ 9223372036854775807 ∧ l0.length + 10 < 140737488355328 then some (l0 ++ (vb (zg a1)).map (fun d : Nat => (d : Int))) else none
theorem arr_get {ds : List Nat} {j : Nat} {x : Int} (h : (ds.map (fun d : Nat => (d : Int)))[j]? = some x) : (arr ds)[0 + j]? = some (Value.int .u8 x) := by
  rw [Nat.zero_add]
  have hj : j < ds.length := by simpa using (List.getElem?_eq_some_iff.1 h).1
  simp only [arr, List.getElem?_toArray]
  rw [List.getElem?_append_left (by simpa using hj)]
  rw [List.getElem?_map] at h ⊢
  cases hd : ds[j]? with
  | none => rw [hd] at h; cases h
  | some d => rw [hd] at h; simp at h; simp [h]
theorem zg_lt {n : Int} (h1 : -9223372036854775808 ≤ n) (h2 : n ≤ 9223372036854775807) : zg n < 18446744073709551616 := by unfold zg; split <;> omega
theorem vb_ten {n : Int} (h1 : -9223372036854775808 ≤ n) (h2 : n ≤ 9223372036854775807) : (vb (zg n)).length ≤ 10 := by have := zg_lt h1 h2; have := vb_len 9 (zg n) (by omega); omega
set_option maxRecDepth 100000 in
theorem bin_Put.calls (A0 : Option Addr) (c0 : Nat) (l0 : List Int) (a1 : Int) (r : List Int) (w : World) (hr0 : Kd.C (Kd.int .u8) w A0 l0.length l0) (hc0 : l0.length ≤ c0) (h : bin_Put.f l0 a1 = some r) :
    Calls Tryd.prog 77 #[.slice A0 l0.length c0, .int .i64 a1] w fun e w' => ∃ v0_ : Value, e = .returned (v0_) ∧ Kd.R (Kd.int .u8) 5 w' w.heap.size (fun _ => True) v0_ r ∧ Below w.heap.size w w' := by
  unfold bin_Put.f at h
  by_cases hc : -9223372036854775808 ≤ a1 ∧ a1 ≤ 9223372036854775807 ∧ l0.length + 10 < 140737488355328
  case neg => rw [if_neg hc] at h; cases h
  rw [if_pos hc] at h
  obtain rfl := Option.some.inj h
  obtain ⟨hn1, hn2, hsz⟩ := hc
  clear h
  have hlen : l0.length ≤ 9223372036854775807 := hr0.2.1
  have hten := vb_ten hn1 hn2
  have hpos := vb_pos (zg a1)
  have HR0 := Aside0.mk hr0
  have HT := Aside0.mk hten
  have HI : Aside0 ((Tryd.prog.info? 110).map (·.size) = some (arr (vb (zg a1))).size) := Aside0.mk (by rw [arr_size hten]; kernel_rfl)
  clear hr0
  generalize hm : (vb (zg a1)).length = m at *
  go_enter Tryd.func77, Tryd.ntmps77
  go_wp2_with fail
  refine (bin_pieces.calls a1 _ hn1 hn2).mono ?_
  rw [hm]
  rintro e w1 ⟨rfl, hb⟩
  have HB := Aside0.mk hb
  clear hb
  go_wp2_with first
    | (refine wpList_store_row rfl 110 _ _ rfl _ (arr (vb (zg a1))) rfl rfl 110 _ (heap_alloc_last _ _) HI.out (by rw [arr_size (by rw [hm]; exact HT.out)]; rfl) (arr_all _) ?_
       rw [World.setRow_alloc_new])
  have HC := Aside0.mk hc0
  have HL := Aside0.mk hlen
  refine start_ (n := 6) (S := fun _ => True) (ds := []) #[false, false, false, false, false, false] (by kernel_rfl) rfl rfl trivial (fun _ => ?_)
  have hcs : (w1.alloc (.cells (arr (vb (zg a1))) 110)).drew.heap[w1.heap.size]? = some (.cells (arr (vb (zg a1))) 110 (0, 0)) := heap_alloc_last _ _
  have HK : Aside0 ((Kd.int .u8).C (w1.alloc (.cells (arr (vb (zg a1))) 110)).drew (some ⟨w1.heap.size, 0, none⟩) m ((vb (zg a1)).map fun d : Nat => (d : Int))) :=
    Aside0.mk (by have := C_block (enc := Value.int .u8) (h1 := fun _ => rfl) hcs ((vb (zg a1)).map fun d : Nat => (d : Int)) (by rw [List.length_map, hm]; have := HT.out; omega) (fun j x hj => arr_get hj); rw [List.length_map, hm] at this; exact this)
  have HB2 : Aside0 (Below w.heap.size w (w1.alloc (.cells (arr (vb (zg a1))) 110)).drew) := Aside0.mk ((HB.out.alloc HB.out.size _).drew)
  have HR2 : Aside0 ((Kd.int .u8).C (w1.alloc (.cells (arr (vb (zg a1))) 110)).drew A0 l0.length l0) := Aside0.mk (Kd.C_below HR0.out HB2.out)
  clear hcs
  generalize (w1.alloc (.cells (arr (vb (zg a1))) 110)).drew = w2 at HK HB2 HR2 ⊢
  refine pure_ (i := 0) (N := some 12) (v := ?_) (a' := ?_) #[true, false, false, false, false, false] rfl rfl (by kernel_rfl) (fun _ _ _ h => h) (Or.inl ⟨by rfl, ?_⟩) ?_ ?_
  rotate_left
  · intro w'
    go_simp
    with_reducible rfl
  rotate_left
  · simp only [Act.put, List.setIfInBounds_toArray, List.set_cons_zero, List.set_cons_succ]
    rfl
  refine pure_ (i := 2) (N := some 14) (v := ?_) (a' := ?_) #[true, false, true, false, false, false] rfl rfl (by kernel_rfl) (fun _ _ _ h => h) (Or.inl ⟨by rfl, ?_⟩) ?_ ?_
  rotate_left
  · intro w'
    go_simp
    with_reducible rfl
  rotate_left
  · simp only [Act.put, List.setIfInBounds_toArray, List.set_cons_zero, List.set_cons_succ]
    rfl
  refine pure_ (i := 3) (N := some 15) (v := .slice (some ⟨w1.heap.size, 0, none⟩) m 10) (a' := ?_) #[true, false, true, true, false, false] rfl rfl (by kernel_rfl) (fun _ _ _ h => h) (Or.inl ⟨by rfl, ?_⟩) ?_ ?_
  · intro w'
    go_simp
    rw [run_sliceAt_to (e := 5) (n := 10) w' (by kernel_rfl) (by kernel_rfl) HT.out]
    rfl
  rotate_left
  · simp only [Act.put, List.setIfInBounds_toArray, List.set_cons_zero, List.set_cons_succ]
    rfl
  refine one_ (i := 1) (N := some 13) #[true, true, true, true, false, false] rfl rfl (by kernel_rfl) (by decide) (fun K hK => ?_)
  refine goes_ Tryd.func97 (by kernel_rfl) rfl #[.slice A0 l0.length c0] (by rfl) rfl rfl (by (try simp only [List.map_toArray, List.map_cons, List.map_nil]); rfl) ?_
  refine (slices_Clip_byte_byte.calls A0 l0.length c0 _ HC.out HL.out).mono ?_
  rintro e w3 ⟨rfl, rfl⟩
  refine ⟨_, rfl, ?_⟩
  refine hK _ _ trivial (fun _ => ?_)
  refine norm_ (a' := ?_) ?_ ?_
  rotate_left
  · simp only [Act.put, List.setIfInBounds_toArray, List.set_cons_zero, List.set_cons_succ]
    rfl
  refine one_ (i := 4) (N := some 16) #[true, true, true, true, true, false] rfl rfl (by kernel_rfl) (by decide) (fun K hK => ?_)
  refine R_append_clip_step (Kd.int .u8) (flat_scalar _ _) (some 16) rfl (by rfl) _ _ 45 5 (.int .u8 0) 1 rfl (by kernel_rfl) (by kernel_rfl) rfl (by decide) (by decide) l0 _ A0 (some ⟨w1.heap.size, 0, none⟩) l0.length m 10 rfl rfl HR2.out HK.out hpos (by omega) ?_
  intro v1 w4 hR hb4 hg
  refine hK _ _ trivial (fun _ => ?_)
  refine pure_ (i := 5) (N := some 4) (v := ?_) (a' := ?_) #[true, true, true, true, true, true] rfl rfl (by kernel_rfl) (fun _ _ _ h => h) (Or.inl ⟨by rfl, ?_⟩) ?_ ?_
  rotate_left
  · intro w'
    go_simp
    with_reducible rfl
  rotate_left
  · simp only [Act.put, List.setIfInBounds_toArray, List.set_cons_zero, List.set_cons_succ]
    rfl
  refine done_ (by kernel_rfl) ?_
  go_wp2_with fail
  go_ret
  exact ⟨_, rfl, Kd.R_lower hR HB2.out.size, below_step HB2.out hb4⟩

end Go.Proofs.YtlnfaeegmcihfaaDoor.Q
