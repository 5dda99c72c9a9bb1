-- Written by the program wip/tools/mp.py of this work, which drives the print of the kit; hand texts of this session among it.
import Derived.Test.YtlnfaeegmcihfaaDoorQ0
import Derived.Test.YtlnfaeegmcihfaaDoorQ9
import Derived.Test.YtlnfaeegmcihfaaDoorQ12
import Derived.Test.YtlnfaeegmcihfaaDoorQ22
import Derived.Test.YtlnfaeegmcihfaaDoorQ23
namespace Go.Proofs.YtlnfaeegmcihfaaDoor.Q
open Go.RowKit Go.Proofs.HW Go.Proofs.YtlnfaeegmcihfaaDoorW.PrintWords Go.Proofs.YtlnfaeegmcihfaaDoorW.PrintLast
set_option linter.unusedVariables false
set_option linter.unusedSimpArgs false

-- HANDTEXT
/-! ### pool_Get: function 45, by hand -/
-- NEEDS hornbook/bin.Get
-- NEEDS hornbook/bin.GetText
-- NEEDS hornbook/pool.texts
-- NEEDS hornbook/pool.Right
def pool_Get.gt (k : Nat) (l0 : List Int) (most : Int) : Nat → List ByteArray → Int → Int → Option (List ByteArray × Int × Int)
  | 0, acc, at_, e => some (acc, at_, e)
  | n + 1, acc, at_, e => if e = 0 then (bin_GetText.f k l0 at_ most).bind fun t => pool_Get.gt k l0 most n (acc ++ [t.1]) t.2.1 t.2.2 else pool_Get.gt k l0 most n (acc ++ [⟨#[]⟩]) at_ e
def pool_Get.fin (k : Nat) (kind nn : Int) (acc : List ByteArray) (at_ e : Int) : Option (Int × Int × ByteArray × ByteArray × ByteArray × Int × Int) :=
  if e = 0 then (pool_Right.f k kind nn (acc.getD 0 ⟨#[]⟩) (acc.getD 1 ⟨#[]⟩) (acc.getD 2 ⟨#[]⟩)).bind fun ok =>
    if ok = true then some (kind, nn, acc.getD 0 ⟨#[]⟩, acc.getD 1 ⟨#[]⟩, acc.getD 2 ⟨#[]⟩, at_, 0) else some (0, 0, ⟨#[]⟩, ⟨#[]⟩, ⟨#[]⟩, 0, 11)
  else some (0, 0, ⟨#[]⟩, ⟨#[]⟩, ⟨#[]⟩, 0, e)
def pool_Get.f (k : Nat) (l0 : List Int) (a1 : Int) : Option (Int × Int × ByteArray × ByteArray × ByteArray × Int × Int) :=
  (bin_Get.f l0 a1).bind fun h =>
    if h.2.2 = 0 then
      if h.1 < 1 ∨ 5 < h.1 then some (0, 0, ⟨#[]⟩, ⟨#[]⟩, ⟨#[]⟩, 0, 11)
      else (if h.1 = 1 then bin_Get.f l0 h.2.1 else some (0, h.2.1, 0)).bind fun n =>
        (pool_texts.f k h.1).bind fun m => if 0 ≤ m ∧ m ≤ 3 then (pool_Get.gt k l0 (if h.1 = 2 then 64 else 256) m.toNat [] n.2.1 n.2.2).bind fun t => pool_Get.fin k h.1 n.1 t.1 t.2.1 t.2.2 else none
    else some (0, 0, ⟨#[]⟩, ⟨#[]⟩, ⟨#[]⟩, 0, h.2.2)
theorem pool_Get.gt_mono (k : Nat) (l0 : List Int) (most : Int) : ∀ (n : Nat) (acc : List ByteArray) (at_ e : Int), LeO (pool_Get.gt k l0 most n acc at_ e) (pool_Get.gt (k + 1) l0 most n acc at_ e)
  | 0, _, _, _, _, h => h
  | n + 1, acc, at_, e, r, h => by
    unfold pool_Get.gt at h ⊢
    split
    · rename_i he
      rw [if_pos he] at h
      obtain ⟨t, ht, h⟩ := Option.bind_eq_some_iff.1 h
      exact Option.bind_eq_some_iff.2 ⟨t, bin_GetText.mono _ _ _ _ _ ht, pool_Get.gt_mono k l0 most n _ _ _ r h⟩
    · rename_i he
      rw [if_neg he] at h
      exact pool_Get.gt_mono k l0 most n _ _ _ r h
theorem pool_Get.mono (l0 : List Int) (a1 : Int) (k : Nat) : LeO (pool_Get.f k l0 a1) (pool_Get.f (k + 1) l0 a1) := by
  have bd : ∀ {α β : Type} {a b : Option α} {f g : α → Option β}, LeO a b → (∀ x, LeO (f x) (g x)) → LeO (a.bind f) (b.bind g) := by
    intro α β a b f g h1 h2 r h
    obtain ⟨x, hx, hf⟩ := Option.bind_eq_some_iff.1 h
    exact Option.bind_eq_some_iff.2 ⟨x, h1 x hx, h2 x r hf⟩
  have rf : ∀ {α : Type} (a : Option α), LeO a a := fun a r h => h
  unfold pool_Get.f
  refine bd (rf _) fun h => ?_
  split
  · split
    · exact rf _
    · refine bd (rf _) fun n => bd (pool_texts.mono _ _) fun m => ?_
      split
      · refine bd (pool_Get.gt_mono _ _ _ _ _ _ _) fun t => ?_
        unfold pool_Get.fin
        split
        · exact bd (pool_Right.mono _ _ _ _ _ _) fun ok => rf _
        · exact rf _
      · exact rf _
  · exact rf _
theorem results_cell_q3 {P : Program} {fn : Func} {p q s : Tmp} {ty : TypeId} (h : fn.results = #[.cell p ty, .tmp q, .tmp s]) (tmps : Array Value) (w : World) (g : Nat) (t : TypeId) (cs : Array Value) (fr : Nat × Nat) (d : TypeDesc)
    (hp : tmps.getD p undef = .pointer (some ⟨g, 0, none⟩)) (hg : w.heap[g]? = some (.cells cs t fr))
    (hu : P.underlying ty = some d) (hd : (match d with | .struct _ | .array _ _ => true | _ => false) = true) (hi : (P.info? ty).map (·.size) = some cs.size) :
    (results fn tmps).run P w = .ok (.tuple #[.agg cs, tmps.getD q undef, tmps.getD s undef]) w := by
  have hp' : tmps[p]?.getD undef = .pointer (some ⟨g, 0, none⟩) := by simpa using hp
  simp [results, h, hp', asAddr, run_loadVar_row w g t ty cs fr d hg hu hd hi]
structure pool_Get.Inv (k : Nat) (l0 : List Int) (most : Int) (m : Nat) (accF : List ByteArray) (atF eF : Int) (w : World) (gr gc ga : Nat) (h1 nn : Int) (v1 v8 v57 : Value) (wr : World) : Prop where
  mk :: (out : ∃ (i : Nat) (acc : List ByteArray) (at_ e : Int), v1 = .int .i64 at_ ∧ v8 = .int .i64 e ∧ v57 = .int .i64 i ∧ acc.length = i ∧ i ≤ m ∧ pool_Get.gt k l0 most (m - i) acc at_ e = some (accF, atF, eF) ∧ Below w.heap.size w wr ∧
    wr.heap[gr]? = some (.cells #[.int .i64 0, .int .i64 0, .string ⟨#[]⟩, .string ⟨#[]⟩, .string ⟨#[]⟩] 40 (0, 0)) ∧
    wr.heap[gc]? = some (.cells #[.int .i64 h1, .int .i64 nn, .string (acc.getD 0 ⟨#[]⟩), .string (acc.getD 1 ⟨#[]⟩), .string (acc.getD 2 ⟨#[]⟩)] 40 (0, 0)) ∧
    wr.heap[ga]? = some (.cells #[.pointer (some ⟨gc, 2, none⟩), .pointer (some ⟨gc, 3, none⟩), .pointer (some ⟨gc, 4, none⟩)] 79 (0, 0)))
set_option maxHeartbeats 8000000 in
set_option maxRecDepth 100000 in
theorem pool_Get.calls (k : Nat) (A0 : Option Addr) (c0 : Nat) (l0 : List Int) (a1 : Int) (r1 r2 : Int) (r3 r4 r5 : ByteArray) (r6 r7 : Int) (w : World) (hr0 : Kd.C (Kd.int .u8) w A0 l0.length l0) (hc0 : l0.length ≤ c0) (h : pool_Get.f k l0 a1 = some (r1, r2, r3, r4, r5, r6, r7)) :
    Calls Tryd.prog 45 #[.slice A0 l0.length c0, .int .i64 a1] w fun e w' => e = .returned (.tuple #[.agg #[.int .i64 r1, .int .i64 r2, .string r3, .string r4, .string r5], .int .i64 r6, .int .i64 r7]) ∧ Below w.heap.size w w' := by
  have HR0 := Aside0.mk hr0
  have HC0 := Aside0.mk hc0
  obtain ⟨⟨h1, h2, h3⟩, hg, hf⟩ := Option.bind_eq_some_iff.1 h
  simp only at hf
  have HG := Aside0.mk hg
  have HF := Aside0.mk hf
  have I40 := Aside0.mk (show (Tryd.prog.info? 40).map (·.size) = some 5 by kernel_rfl)
  have I79 := Aside0.mk (show (Tryd.prog.info? 79).map (·.size) = some 3 by kernel_rfl)
  clear h hg hf hr0 hc0
  go_enter Tryd.func45, Tryd.ntmps45
  go_wp2_with fail
  refine (bin_Get.calls A0 c0 l0 a1 h1 h2 h3 _ (Kd.C_alloc HR0.out _) HC0.out HG.out).mono ?_
  rintro e w1 ⟨rfl, hb⟩
  have HBR := Aside0.mk ((hb.block w.heap.size (by simp)).trans (heap_alloc_last w _))
  have HB1 := Aside0.mk (below_step (below_alloc (Below.refl _ _) _) hb)
  clear hb
  by_cases he : h3 = 0
  case neg =>
    have hf := HF.out
    rw [if_neg he] at hf
    simp only [Option.some.injEq, Prod.mk.injEq] at hf
    obtain ⟨rfl, rfl, rfl, rfl, rfl, rfl, rfl⟩ := hf
    go_wp2_with first
      | (refine wpList_store_row rfl 40 _ _ rfl w.heap.size _ rfl rfl 40 _ HBR.out I40.out rfl (by first | rfl | simp [Value.oneCell']) ?_)
    refine ⟨rfl, _, results_cell_q3 (fn := Tryd.f45) (p := 4) (q := 5) (s := 6) (ty := 40) rfl _ _ w.heap.size 40 _ (0, 0) _ rfl (setRow_heap _ _ _ _ _ _ HBR.out) Tryd.underlying40 rfl I40.out, rfl, HW.Below.setRow0 HB1.out (Nat.le_refl _) _⟩
  by_cases hk1 : h1 < 1
  · skip
    have hf := HF.out
    rw [if_pos he, if_pos (.inl hk1)] at hf
    subst he
    simp only [Option.some.injEq, Prod.mk.injEq] at hf
    obtain ⟨rfl, rfl, rfl, rfl, rfl, rfl, rfl⟩ := hf
    go_wp2_with first
      | (refine wpList_store_row rfl 40 _ _ rfl w.heap.size _ rfl rfl 40 _ HBR.out I40.out rfl (by first | rfl | simp [Value.oneCell']) ?_)
    refine ⟨rfl, _, results_cell_q3 (fn := Tryd.f45) (p := 4) (q := 5) (s := 6) (ty := 40) rfl _ _ w.heap.size 40 _ (0, 0) _ rfl (setRow_heap _ _ _ _ _ _ HBR.out) Tryd.underlying40 rfl I40.out, rfl, HW.Below.setRow0 HB1.out (Nat.le_refl _) _⟩
  by_cases hk5 : 5 < h1
  · skip
    have hf := HF.out
    rw [if_pos he, if_pos (.inr hk5)] at hf
    subst he
    simp only [Option.some.injEq, Prod.mk.injEq] at hf
    obtain ⟨rfl, rfl, rfl, rfl, rfl, rfl, rfl⟩ := hf
    go_wp2_with first
      | (refine wpList_store_row rfl 40 _ _ rfl w.heap.size _ rfl rfl 40 _ HBR.out I40.out rfl (by first | rfl | simp [Value.oneCell']) ?_)
    refine ⟨rfl, _, results_cell_q3 (fn := Tryd.f45) (p := 4) (q := 5) (s := 6) (ty := 40) rfl _ _ w.heap.size 40 _ (0, 0) _ rfl (setRow_heap _ _ _ _ _ _ HBR.out) Tryd.underlying40 rfl I40.out, rfl, HW.Below.setRow0 HB1.out (Nat.le_refl _) _⟩
  have hf := HF.out
  rw [if_pos he, if_neg (by omega)] at hf
  subst he
  obtain ⟨⟨n1, n2, n3⟩, hn, hf⟩ := Option.bind_eq_some_iff.1 hf
  obtain ⟨m, hm, hf⟩ := Option.bind_eq_some_iff.1 hf
  by_cases hm3 : 0 ≤ m ∧ m ≤ 3
  case neg => rw [if_neg hm3] at hf; cases hf
  rw [if_pos hm3] at hf
  obtain ⟨⟨acc, at_, e⟩, hgt, hfin⟩ := Option.bind_eq_some_iff.1 hf
  simp only at hn hgt hfin
  obtain ⟨q, rfl⟩ := Int.eq_ofNat_of_zero_le hm3.1
  have hq : q ≤ 3 := by omega
  have HN := Aside0.mk hn
  have HM := Aside0.mk hm
  have HGT := Aside0.mk (show pool_Get.gt k l0 (if h1 = 2 then 64 else 256) q [] n2 n3 = some (acc, at_, e) from hgt)
  have HFIN := Aside0.mk hfin
  clear hm hm3 hf hgt hfin HF hn HG
  by_cases h11 : h1 = 1
  · have hgt := HGT.out
    rw [if_neg (by omega)] at hgt
    have HGT' := Aside0.mk hgt
    clear HGT hgt
    have HGT := HGT'
    clear HGT'
    subst h11
    have hn := HN.out
    rw [if_pos rfl] at hn
    have HN' := Aside0.mk hn
    clear HN hn
    have HLT := Aside0.mk (blk_lt HBR.out)
    go_wp2_with fail
    refine (bin_Get.calls A0 c0 l0 h2 n1 n2 n3 _ (Kd.C_below HR0.out (below_alloc HB1.out _)) HC0.out HN'.out).mono ?_
    rintro e w2 ⟨rfl, hb2⟩
    have hg2 := (hb2.block w1.heap.size (by simp)).trans (heap_alloc_last w1 _)
    have HGr2 := Aside0.mk ((hb2.block w.heap.size (by have := HLT.out; simp; omega)).trans ((Below.heap_alloc _ _ _ HLT.out).trans HBR.out))
    have HGc2 := Aside0.mk hg2
    have HB2 := Aside0.mk (below_step (below_alloc HB1.out _) hb2)
    have hc20 := (blk_cell hg2 0).trans rfl
    have hc21 := (blk_cell hg2 1).trans rfl
    have hf21 := blk_frozen hg2 1
    have hca : ∀ o, ((w2.setCell ⟨w1.heap.size, 1, none⟩ (.int .i64 n1)).alloc o).cell? ⟨w1.heap.size, 0, none⟩ = some (.int .i64 1) := fun o => by
      have hh : (w2.setCell ⟨w1.heap.size, 1, none⟩ (.int .i64 n1)).heap[w1.heap.size]? = _ := heap_setCell_same _ _ _ _ _ _ HGc2.out
      exact (blk_cell ((Below.heap_alloc _ _ _ (blk_lt hh)).trans hh) 0).trans rfl
    clear hb2 hg2
    go_wp2_with fail
    refine (pool_texts.calls k 1 q _ HM.out).mono ?_
    rintro e w3 ⟨rfl, ⟨m1, rfl⟩⟩
    clear hca hc20 hc21 hf21
    have HGr := Aside0.mk (show (((w2.setCell ⟨w1.heap.size, 1, none⟩ (.int .i64 n1)).alloc (.cells #[.pointer (some ⟨w1.heap.size, 2, none⟩), .pointer (some ⟨w1.heap.size, 3, none⟩), .pointer (some ⟨w1.heap.size, 4, none⟩)] 79)).drewN m1).heap[w.heap.size]? = some (.cells #[.int .i64 0, .int .i64 0, .string ⟨#[]⟩, .string ⟨#[]⟩, .string ⟨#[]⟩] 40 (0, 0)) from (Below.heap_alloc _ _ _ (by have := blk_lt HGr2.out; simpa [World.setCell] using this)).trans ((heap_setCell_other _ _ _ _ (by have := HLT.out; simp; omega)).trans HGr2.out))
    have HGc := Aside0.mk (show (((w2.setCell ⟨w1.heap.size, 1, none⟩ (.int .i64 n1)).alloc (.cells #[.pointer (some ⟨w1.heap.size, 2, none⟩), .pointer (some ⟨w1.heap.size, 3, none⟩), .pointer (some ⟨w1.heap.size, 4, none⟩)] 79)).drewN m1).heap[w1.heap.size]? = some (.cells #[.int .i64 1, .int .i64 n1, .string (([] : List ByteArray).getD 0 ⟨#[]⟩), .string (([] : List ByteArray).getD 1 ⟨#[]⟩), .string (([] : List ByteArray).getD 2 ⟨#[]⟩)] 40 (0, 0)) from (Below.heap_alloc _ _ _ (by have := blk_lt HGc2.out; simpa [World.setCell] using this)).trans (heap_setCell_same _ _ _ _ _ _ HGc2.out))
    have HGa := Aside0.mk (show (((w2.setCell ⟨w1.heap.size, 1, none⟩ (.int .i64 n1)).alloc (.cells #[.pointer (some ⟨w1.heap.size, 2, none⟩), .pointer (some ⟨w1.heap.size, 3, none⟩), .pointer (some ⟨w1.heap.size, 4, none⟩)] 79)).drewN m1).heap[w2.heap.size]? = some (.cells #[.pointer (some ⟨w1.heap.size, 2, none⟩), .pointer (some ⟨w1.heap.size, 3, none⟩), .pointer (some ⟨w1.heap.size, 4, none⟩)] 79 (0, 0)) from by
      have := heap_alloc_last (w2.setCell ⟨w1.heap.size, 1, none⟩ (.int .i64 n1)) (.cells #[.pointer (some ⟨w1.heap.size, 2, none⟩), .pointer (some ⟨w1.heap.size, 3, none⟩), .pointer (some ⟨w1.heap.size, 4, none⟩)] 79)
      have hs : (w2.setCell ⟨w1.heap.size, 1, none⟩ (.int .i64 n1)).heap.size = w2.heap.size := by simp [World.setCell]
      rw [hs] at this
      exact this)
    have HBB := Aside0.mk (show Below w.heap.size w (((w2.setCell ⟨w1.heap.size, 1, none⟩ (.int .i64 n1)).alloc (.cells #[.pointer (some ⟨w1.heap.size, 2, none⟩), .pointer (some ⟨w1.heap.size, 3, none⟩), .pointer (some ⟨w1.heap.size, 4, none⟩)] 79)).drewN m1) from pw_below_drewN (below_alloc (HB2.out.setCell HB1.out.size _) _) _)
    have hlt2 := blk_lt HGc2.out
    generalize w2.heap.size = ga at *
    have HLA := Aside0.mk (show w1.heap.size < ga from hlt2)
    clear hlt2

    have hcut : ∀ W : World, (Instr.sliceAt 79 (.pointer (some ⟨ga, 0, none⟩)) none (some (.int .i64 (q : Int))) none).run Tryd.prog W = .ok (.slice (some ⟨ga, 0, none⟩) q 3) W := fun W => run_sliceAt_to (e := 78) W (by kernel_rfl) (by kernel_rfl) hq
    go_wp2_with fail
    go_loopw [1, 8, 57] (fun v1 v8 v57 wr => pool_Get.Inv k l0 256 q acc at_ e w w.heap.size w1.heap.size ga 1 n1 v1 v8 v57 wr) (fun v1 v8 v57 wr => (q - (intOf v57).toNat))
    case atStart => exact ⟨0, [], _, _, rfl, rfl, rfl, rfl, by omega, HGT.out, HBB.out, HGr.out, HGc.out, HGa.out⟩
    case round =>
      obtain ⟨i, ac, a2, e2, rfl, rfl, rfl, hal, hi, hgt, hB, hr, hc, hp⟩ := hrel.out
      clear hcut HGT HBB HGr HGc HGa
      by_cases hlt : i < q
      · have hpc : wr.cell? ⟨ga, i, none⟩ = some (.pointer (some ⟨w1.heap.size, 2 + i, none⟩)) := by
          rw [blk_cell hp i]
          have : i = 0 ∨ i = 1 ∨ i = 2 := by omega
          rcases this with rfl | rfl | rfl <;> rfl
        obtain ⟨d, hd⟩ : ∃ d, q - i = d + 1 := ⟨q - i - 1, by omega⟩
        rw [hd] at hgt
        have hd2 : d = q - (i + 1) := by omega
        subst hd2
        unfold pool_Get.gt at hgt
        by_cases he2 : e2 = 0
        · rw [if_pos he2] at hgt
          obtain ⟨⟨t1, t2, t3⟩, ht, hgt⟩ := Option.bind_eq_some_iff.1 hgt
          have HT := Aside0.mk ht
          have HGT := Aside0.mk hgt
          have HBX := Aside0.mk hB
          have HRX := Aside0.mk hr
          have HCX := Aside0.mk hc
          have HPX := Aside0.mk hp
          clear ht hgt hB hr hc hp hd
          subst he2
          go_wp2_with fail
          refine (bin_GetText.calls k A0 c0 l0 a2 256 t1 t2 t3 _ (Kd.C_below HR0.out HBX.out) HC0.out HT.out).mono ?_
          rintro e w5 ⟨rfl, hb5⟩
          have HBY := Aside0.mk (below_step HBX.out hb5)
          have HRY := Aside0.mk ((hb5.block _ (blk_lt HRX.out)).trans HRX.out)
          have HCY := Aside0.mk ((hb5.block _ (blk_lt HCX.out)).trans HCX.out)
          have HPY := Aside0.mk ((hb5.block _ (blk_lt HPX.out)).trans HPX.out)
          have hsc : w5.cell? ⟨w1.heap.size, 2 + i, none⟩ = some (.string (ac.getD i ⟨#[]⟩)) := by
            rw [blk_cell HCY.out (2 + i)]
            have : i = 0 ∨ i = 1 ∨ i = 2 := by omega
            rcases this with rfl | rfl | rfl <;> rfl
          have hsf : w5.frozen? ⟨w1.heap.size, 2 + i, none⟩ = false := blk_frozen HCY.out _
          clear hb5 hpc
          go_wp2_with fail
          go_roundw
          case rel =>
            refine ⟨i + 1, ac ++ [t1], t2, t3, rfl, rfl, by push_cast; rfl, by rw [List.length_append, hal]; rfl, by omega, HGT.out, HBY.out.setCell (HB1.out.size) _, ?_, ?_, ?_⟩
            · rw [heap_setCell_other _ _ _ _ (by have := HB1.out.size; have := HLT.out; simp; omega)]; exact HRY.out
            · rw [heap_setCell_same _ _ _ _ _ _ HCY.out]
              have : i = 0 ∨ i = 1 ∨ i = 2 := by omega
              rcases this with rfl | rfl | rfl
              · match ac, hal with
                | [], _ => rfl
              · match ac, hal with
                | [x], _ => rfl
              · match ac, hal with
                | [x, y], _ => rfl
            · rw [heap_setCell_other _ _ _ _ (by have := HLA.out; simp; omega)]; exact HPY.out
          case measure => simp [intOf]; omega
        · rw [if_neg he2] at hgt
          have HGT := Aside0.mk hgt
          have HBX := Aside0.mk hB
          have HRX := Aside0.mk hr
          have HCX := Aside0.mk hc
          have HPX := Aside0.mk hp
          clear hgt hB hr hc hp hd
          go_wp2_with fail
          go_roundw
          case rel =>
            refine ⟨i + 1, ac ++ [⟨#[]⟩], a2, e2, rfl, rfl, by push_cast; rfl, by rw [List.length_append, hal]; rfl, by omega, HGT.out, HBX.out, HRX.out, ?_, HPX.out⟩
            rw [HCX.out]
            have : i = 0 ∨ i = 1 ∨ i = 2 := by omega
            rcases this with rfl | rfl | rfl
            · match ac, hal with
              | [], _ => rfl
            · match ac, hal with
              | [x], _ => rfl
            · match ac, hal with
              | [x, y], _ => rfl
          case measure => simp [intOf]; omega
      · have hz : q - i = 0 := by omega
        rw [hz] at hgt
        unfold pool_Get.gt at hgt
        simp only [Option.some.injEq, Prod.mk.injEq] at hgt
        obtain ⟨rfl, rfl, rfl⟩ := hgt
        have HBX := Aside0.mk hB
        have HRX := Aside0.mk hr
        have HCX := Aside0.mk hc
        have hfin := HFIN.out
        unfold pool_Get.fin at hfin
        clear hB hr hc hp hz HFIN
        by_cases he2 : e2 = 0
        case neg =>
          rw [if_neg he2] at hfin
          simp only [Option.some.injEq, Prod.mk.injEq] at hfin
          obtain ⟨rfl, rfl, rfl, rfl, rfl, rfl, rfl⟩ := hfin
          go_wp2_with first
            | (refine wpList_store_row rfl 40 _ _ rfl w.heap.size _ rfl rfl 40 _ HRX.out I40.out rfl (by first | rfl | simp [Value.oneCell']) ?_)
          refine ⟨rfl, _, results_cell_q3 (fn := Tryd.f45) (p := 4) (q := 5) (s := 6) (ty := 40) rfl _ _ w.heap.size 40 _ (0, 0) _ rfl (setRow_heap _ _ _ _ _ _ HRX.out) Tryd.underlying40 rfl I40.out, rfl, HW.Below.setRow0 HBX.out (Nat.le_refl _) _⟩
        rw [if_pos he2] at hfin
        obtain ⟨ok, hok, hfin⟩ := Option.bind_eq_some_iff.1 hfin
        have HOK := Aside0.mk hok
        have HFIN := Aside0.mk hfin
        clear hok hfin
        subst he2
        go_wp2_with first
          | (refine wpList_load_row rfl 40 _ rfl w1.heap.size rfl 40 _ (0, 0) _ HCX.out Tryd.underlying40 rfl I40.out ?_)
        refine (pool_Right.calls k _ _ _ _ _ ok _ HOK.out).mono ?_
        rintro e w6 ⟨rfl, hb6⟩
        have HBY := Aside0.mk (below_step HBX.out hb6)
        have HRY := Aside0.mk ((hb6.block _ (blk_lt HRX.out)).trans HRX.out)
        have HCY := Aside0.mk ((hb6.block _ (blk_lt HCX.out)).trans HCX.out)
        clear hb6
        cases ok with
        | false =>
          have hfin := HFIN.out
          rw [if_neg (by decide)] at hfin
          simp only [Option.some.injEq, Prod.mk.injEq] at hfin
          obtain ⟨rfl, rfl, rfl, rfl, rfl, rfl, rfl⟩ := hfin
          clear HFIN
          go_wp2_with first
            | (refine wpList_store_row rfl 40 _ _ rfl w.heap.size _ rfl rfl 40 _ HRY.out I40.out rfl (by first | rfl | simp [Value.oneCell']) ?_)
          refine ⟨rfl, _, results_cell_q3 (fn := Tryd.f45) (p := 4) (q := 5) (s := 6) (ty := 40) rfl _ _ w.heap.size 40 _ (0, 0) _ rfl (setRow_heap _ _ _ _ _ _ HRY.out) Tryd.underlying40 rfl I40.out, rfl, HW.Below.setRow0 HBY.out (Nat.le_refl _) _⟩
        | true =>
          have hfin := HFIN.out
          rw [if_pos rfl] at hfin
          simp only [Option.some.injEq, Prod.mk.injEq] at hfin
          obtain ⟨rfl, rfl, rfl, rfl, rfl, rfl, rfl⟩ := hfin
          clear HFIN
          go_wp2_with first
            | (refine wpList_load_row rfl 40 _ rfl w1.heap.size rfl 40 _ (0, 0) _ HCY.out Tryd.underlying40 rfl I40.out ?_)
            | (refine wpList_store_row rfl 40 _ _ rfl w.heap.size _ rfl rfl 40 _ HRY.out I40.out rfl (by first | rfl | simp [Value.oneCell']) ?_)
          refine ⟨rfl, _, results_cell_q3 (fn := Tryd.f45) (p := 4) (q := 5) (s := 6) (ty := 40) rfl _ _ w.heap.size 40 _ (0, 0) _ rfl (setRow_heap _ _ _ _ _ _ HRY.out) Tryd.underlying40 rfl I40.out, rfl, HW.Below.setRow0 HBY.out (Nat.le_refl _) _⟩
  have hn' := HN.out
  rw [if_neg h11] at hn'
  have HN' := Aside0.mk hn'
  clear HN hn'
  have HN := HN'
  clear HN'
  by_cases h12 : h1 = 2
  · have hgt := HGT.out
    rw [if_pos h12] at hgt
    have HGT' := Aside0.mk hgt
    clear HGT hgt
    have HGT := HGT'
    clear HGT'
    subst h12
    have hn := Option.some.inj HN.out
    simp only [Prod.mk.injEq] at hn
    obtain ⟨rfl, rfl, rfl⟩ := hn
    clear HN
    go_wp2_with fail
    refine (pool_texts.calls k 2 q _ HM.out).mono ?_
    rintro e w2 ⟨rfl, ⟨n1, rfl⟩⟩
    have HLT := Aside0.mk (blk_lt HBR.out)
    have HGr := Aside0.mk (show (((w1.alloc (.cells #[.int .i64 (2), .int .i64 0, .string ⟨#[]⟩, .string ⟨#[]⟩, .string ⟨#[]⟩] 40)).alloc (.cells #[.pointer (some ⟨w1.heap.size, 2, none⟩), .pointer (some ⟨w1.heap.size, 3, none⟩), .pointer (some ⟨w1.heap.size, 4, none⟩)] 79)).drewN n1).heap[w.heap.size]? = some (.cells #[.int .i64 0, .int .i64 0, .string ⟨#[]⟩, .string ⟨#[]⟩, .string ⟨#[]⟩] 40 (0, 0)) from ((Below.heap_alloc _ _ _ (by have := HLT.out; simp; omega)).trans (Below.heap_alloc _ _ _ HLT.out)).trans HBR.out)
    have HGc := Aside0.mk (show (((w1.alloc (.cells #[.int .i64 (2), .int .i64 0, .string ⟨#[]⟩, .string ⟨#[]⟩, .string ⟨#[]⟩] 40)).alloc (.cells #[.pointer (some ⟨w1.heap.size, 2, none⟩), .pointer (some ⟨w1.heap.size, 3, none⟩), .pointer (some ⟨w1.heap.size, 4, none⟩)] 79)).drewN n1).heap[w1.heap.size]? = some (.cells #[.int .i64 (2), .int .i64 0, .string (([] : List ByteArray).getD 0 ⟨#[]⟩), .string (([] : List ByteArray).getD 1 ⟨#[]⟩), .string (([] : List ByteArray).getD 2 ⟨#[]⟩)] 40 (0, 0)) from heap_alloc2_old _ _ _)
    have HGa := Aside0.mk (show (((w1.alloc (.cells #[.int .i64 (2), .int .i64 0, .string ⟨#[]⟩, .string ⟨#[]⟩, .string ⟨#[]⟩] 40)).alloc (.cells #[.pointer (some ⟨w1.heap.size, 2, none⟩), .pointer (some ⟨w1.heap.size, 3, none⟩), .pointer (some ⟨w1.heap.size, 4, none⟩)] 79)).drewN n1).heap[w1.heap.size + 1]? = some (.cells #[.pointer (some ⟨w1.heap.size, 2, none⟩), .pointer (some ⟨w1.heap.size, 3, none⟩), .pointer (some ⟨w1.heap.size, 4, none⟩)] 79 (0, 0)) from heap_alloc2_new _ _ _)
    have HBB := Aside0.mk (show Below w.heap.size w (((w1.alloc (.cells #[.int .i64 (2), .int .i64 0, .string ⟨#[]⟩, .string ⟨#[]⟩, .string ⟨#[]⟩] 40)).alloc (.cells #[.pointer (some ⟨w1.heap.size, 2, none⟩), .pointer (some ⟨w1.heap.size, 3, none⟩), .pointer (some ⟨w1.heap.size, 4, none⟩)] 79)).drewN n1) from pw_below_drewN (below_alloc (below_alloc HB1.out _) _) _)
    generalize hga : w1.heap.size + 1 = ga at *
    have HLA := Aside0.mk (show w1.heap.size < ga by omega)
    clear hga

    have hcut : ∀ W : World, (Instr.sliceAt 79 (.pointer (some ⟨ga, 0, none⟩)) none (some (.int .i64 (q : Int))) none).run Tryd.prog W = .ok (.slice (some ⟨ga, 0, none⟩) q 3) W := fun W => run_sliceAt_to (e := 78) W (by kernel_rfl) (by kernel_rfl) hq
    go_wp2_with fail
    go_loopw [1, 8, 57] (fun v1 v8 v57 wr => pool_Get.Inv k l0 64 q acc at_ e w w.heap.size w1.heap.size ga 2 0 v1 v8 v57 wr) (fun v1 v8 v57 wr => (q - (intOf v57).toNat))
    case atStart => exact ⟨0, [], _, _, rfl, rfl, rfl, rfl, by omega, HGT.out, HBB.out, HGr.out, HGc.out, HGa.out⟩
    case round =>
      obtain ⟨i, ac, a2, e2, rfl, rfl, rfl, hal, hi, hgt, hB, hr, hc, hp⟩ := hrel.out
      clear hcut HGT HBB HGr HGc HGa
      by_cases hlt : i < q
      · have hpc : wr.cell? ⟨ga, i, none⟩ = some (.pointer (some ⟨w1.heap.size, 2 + i, none⟩)) := by
          rw [blk_cell hp i]
          have : i = 0 ∨ i = 1 ∨ i = 2 := by omega
          rcases this with rfl | rfl | rfl <;> rfl
        obtain ⟨d, hd⟩ : ∃ d, q - i = d + 1 := ⟨q - i - 1, by omega⟩
        rw [hd] at hgt
        have hd2 : d = q - (i + 1) := by omega
        subst hd2
        unfold pool_Get.gt at hgt
        by_cases he2 : e2 = 0
        · rw [if_pos he2] at hgt
          obtain ⟨⟨t1, t2, t3⟩, ht, hgt⟩ := Option.bind_eq_some_iff.1 hgt
          have HT := Aside0.mk ht
          have HGT := Aside0.mk hgt
          have HBX := Aside0.mk hB
          have HRX := Aside0.mk hr
          have HCX := Aside0.mk hc
          have HPX := Aside0.mk hp
          clear ht hgt hB hr hc hp hd
          subst he2
          go_wp2_with fail
          refine (bin_GetText.calls k A0 c0 l0 a2 64 t1 t2 t3 _ (Kd.C_below HR0.out HBX.out) HC0.out HT.out).mono ?_
          rintro e w5 ⟨rfl, hb5⟩
          have HBY := Aside0.mk (below_step HBX.out hb5)
          have HRY := Aside0.mk ((hb5.block _ (blk_lt HRX.out)).trans HRX.out)
          have HCY := Aside0.mk ((hb5.block _ (blk_lt HCX.out)).trans HCX.out)
          have HPY := Aside0.mk ((hb5.block _ (blk_lt HPX.out)).trans HPX.out)
          have hsc : w5.cell? ⟨w1.heap.size, 2 + i, none⟩ = some (.string (ac.getD i ⟨#[]⟩)) := by
            rw [blk_cell HCY.out (2 + i)]
            have : i = 0 ∨ i = 1 ∨ i = 2 := by omega
            rcases this with rfl | rfl | rfl <;> rfl
          have hsf : w5.frozen? ⟨w1.heap.size, 2 + i, none⟩ = false := blk_frozen HCY.out _
          clear hb5 hpc
          go_wp2_with fail
          go_roundw
          case rel =>
            refine ⟨i + 1, ac ++ [t1], t2, t3, rfl, rfl, by push_cast; rfl, by rw [List.length_append, hal]; rfl, by omega, HGT.out, HBY.out.setCell (HB1.out.size) _, ?_, ?_, ?_⟩
            · rw [heap_setCell_other _ _ _ _ (by have := HB1.out.size; have := HLT.out; simp; omega)]; exact HRY.out
            · rw [heap_setCell_same _ _ _ _ _ _ HCY.out]
              have : i = 0 ∨ i = 1 ∨ i = 2 := by omega
              rcases this with rfl | rfl | rfl
              · match ac, hal with
                | [], _ => rfl
              · match ac, hal with
                | [x], _ => rfl
              · match ac, hal with
                | [x, y], _ => rfl
            · rw [heap_setCell_other _ _ _ _ (by have := HLA.out; simp; omega)]; exact HPY.out
          case measure => simp [intOf]; omega
        · rw [if_neg he2] at hgt
          have HGT := Aside0.mk hgt
          have HBX := Aside0.mk hB
          have HRX := Aside0.mk hr
          have HCX := Aside0.mk hc
          have HPX := Aside0.mk hp
          clear hgt hB hr hc hp hd
          go_wp2_with fail
          go_roundw
          case rel =>
            refine ⟨i + 1, ac ++ [⟨#[]⟩], a2, e2, rfl, rfl, by push_cast; rfl, by rw [List.length_append, hal]; rfl, by omega, HGT.out, HBX.out, HRX.out, ?_, HPX.out⟩
            rw [HCX.out]
            have : i = 0 ∨ i = 1 ∨ i = 2 := by omega
            rcases this with rfl | rfl | rfl
            · match ac, hal with
              | [], _ => rfl
            · match ac, hal with
              | [x], _ => rfl
            · match ac, hal with
              | [x, y], _ => rfl
          case measure => simp [intOf]; omega
      · have hz : q - i = 0 := by omega
        rw [hz] at hgt
        unfold pool_Get.gt at hgt
        simp only [Option.some.injEq, Prod.mk.injEq] at hgt
        obtain ⟨rfl, rfl, rfl⟩ := hgt
        have HBX := Aside0.mk hB
        have HRX := Aside0.mk hr
        have HCX := Aside0.mk hc
        have hfin := HFIN.out
        unfold pool_Get.fin at hfin
        clear hB hr hc hp hz HFIN
        by_cases he2 : e2 = 0
        case neg =>
          rw [if_neg he2] at hfin
          simp only [Option.some.injEq, Prod.mk.injEq] at hfin
          obtain ⟨rfl, rfl, rfl, rfl, rfl, rfl, rfl⟩ := hfin
          go_wp2_with first
            | (refine wpList_store_row rfl 40 _ _ rfl w.heap.size _ rfl rfl 40 _ HRX.out I40.out rfl (by first | rfl | simp [Value.oneCell']) ?_)
          refine ⟨rfl, _, results_cell_q3 (fn := Tryd.f45) (p := 4) (q := 5) (s := 6) (ty := 40) rfl _ _ w.heap.size 40 _ (0, 0) _ rfl (setRow_heap _ _ _ _ _ _ HRX.out) Tryd.underlying40 rfl I40.out, rfl, HW.Below.setRow0 HBX.out (Nat.le_refl _) _⟩
        rw [if_pos he2] at hfin
        obtain ⟨ok, hok, hfin⟩ := Option.bind_eq_some_iff.1 hfin
        have HOK := Aside0.mk hok
        have HFIN := Aside0.mk hfin
        clear hok hfin
        subst he2
        go_wp2_with first
          | (refine wpList_load_row rfl 40 _ rfl w1.heap.size rfl 40 _ (0, 0) _ HCX.out Tryd.underlying40 rfl I40.out ?_)
        refine (pool_Right.calls k _ _ _ _ _ ok _ HOK.out).mono ?_
        rintro e w6 ⟨rfl, hb6⟩
        have HBY := Aside0.mk (below_step HBX.out hb6)
        have HRY := Aside0.mk ((hb6.block _ (blk_lt HRX.out)).trans HRX.out)
        have HCY := Aside0.mk ((hb6.block _ (blk_lt HCX.out)).trans HCX.out)
        clear hb6
        cases ok with
        | false =>
          have hfin := HFIN.out
          rw [if_neg (by decide)] at hfin
          simp only [Option.some.injEq, Prod.mk.injEq] at hfin
          obtain ⟨rfl, rfl, rfl, rfl, rfl, rfl, rfl⟩ := hfin
          clear HFIN
          go_wp2_with first
            | (refine wpList_store_row rfl 40 _ _ rfl w.heap.size _ rfl rfl 40 _ HRY.out I40.out rfl (by first | rfl | simp [Value.oneCell']) ?_)
          refine ⟨rfl, _, results_cell_q3 (fn := Tryd.f45) (p := 4) (q := 5) (s := 6) (ty := 40) rfl _ _ w.heap.size 40 _ (0, 0) _ rfl (setRow_heap _ _ _ _ _ _ HRY.out) Tryd.underlying40 rfl I40.out, rfl, HW.Below.setRow0 HBY.out (Nat.le_refl _) _⟩
        | true =>
          have hfin := HFIN.out
          rw [if_pos rfl] at hfin
          simp only [Option.some.injEq, Prod.mk.injEq] at hfin
          obtain ⟨rfl, rfl, rfl, rfl, rfl, rfl, rfl⟩ := hfin
          clear HFIN
          go_wp2_with first
            | (refine wpList_load_row rfl 40 _ rfl w1.heap.size rfl 40 _ (0, 0) _ HCY.out Tryd.underlying40 rfl I40.out ?_)
            | (refine wpList_store_row rfl 40 _ _ rfl w.heap.size _ rfl rfl 40 _ HRY.out I40.out rfl (by first | rfl | simp [Value.oneCell']) ?_)
          refine ⟨rfl, _, results_cell_q3 (fn := Tryd.f45) (p := 4) (q := 5) (s := 6) (ty := 40) rfl _ _ w.heap.size 40 _ (0, 0) _ rfl (setRow_heap _ _ _ _ _ _ HRY.out) Tryd.underlying40 rfl I40.out, rfl, HW.Below.setRow0 HBY.out (Nat.le_refl _) _⟩
  · have hgt := HGT.out
    rw [if_neg h12] at hgt
    have HGT' := Aside0.mk hgt
    clear HGT hgt
    have HGT := HGT'
    clear HGT'
    have hn := Option.some.inj HN.out
    simp only [Prod.mk.injEq] at hn
    obtain ⟨rfl, rfl, rfl⟩ := hn
    clear HN
    go_wp2_with fail
    refine (pool_texts.calls k h1 q _ HM.out).mono ?_
    rintro e w2 ⟨rfl, ⟨n1, rfl⟩⟩
    have HLT := Aside0.mk (blk_lt HBR.out)
    have HGr := Aside0.mk (show (((w1.alloc (.cells #[.int .i64 (h1), .int .i64 0, .string ⟨#[]⟩, .string ⟨#[]⟩, .string ⟨#[]⟩] 40)).alloc (.cells #[.pointer (some ⟨w1.heap.size, 2, none⟩), .pointer (some ⟨w1.heap.size, 3, none⟩), .pointer (some ⟨w1.heap.size, 4, none⟩)] 79)).drewN n1).heap[w.heap.size]? = some (.cells #[.int .i64 0, .int .i64 0, .string ⟨#[]⟩, .string ⟨#[]⟩, .string ⟨#[]⟩] 40 (0, 0)) from ((Below.heap_alloc _ _ _ (by have := HLT.out; simp; omega)).trans (Below.heap_alloc _ _ _ HLT.out)).trans HBR.out)
    have HGc := Aside0.mk (show (((w1.alloc (.cells #[.int .i64 (h1), .int .i64 0, .string ⟨#[]⟩, .string ⟨#[]⟩, .string ⟨#[]⟩] 40)).alloc (.cells #[.pointer (some ⟨w1.heap.size, 2, none⟩), .pointer (some ⟨w1.heap.size, 3, none⟩), .pointer (some ⟨w1.heap.size, 4, none⟩)] 79)).drewN n1).heap[w1.heap.size]? = some (.cells #[.int .i64 (h1), .int .i64 0, .string (([] : List ByteArray).getD 0 ⟨#[]⟩), .string (([] : List ByteArray).getD 1 ⟨#[]⟩), .string (([] : List ByteArray).getD 2 ⟨#[]⟩)] 40 (0, 0)) from heap_alloc2_old _ _ _)
    have HGa := Aside0.mk (show (((w1.alloc (.cells #[.int .i64 (h1), .int .i64 0, .string ⟨#[]⟩, .string ⟨#[]⟩, .string ⟨#[]⟩] 40)).alloc (.cells #[.pointer (some ⟨w1.heap.size, 2, none⟩), .pointer (some ⟨w1.heap.size, 3, none⟩), .pointer (some ⟨w1.heap.size, 4, none⟩)] 79)).drewN n1).heap[w1.heap.size + 1]? = some (.cells #[.pointer (some ⟨w1.heap.size, 2, none⟩), .pointer (some ⟨w1.heap.size, 3, none⟩), .pointer (some ⟨w1.heap.size, 4, none⟩)] 79 (0, 0)) from heap_alloc2_new _ _ _)
    have HBB := Aside0.mk (show Below w.heap.size w (((w1.alloc (.cells #[.int .i64 (h1), .int .i64 0, .string ⟨#[]⟩, .string ⟨#[]⟩, .string ⟨#[]⟩] 40)).alloc (.cells #[.pointer (some ⟨w1.heap.size, 2, none⟩), .pointer (some ⟨w1.heap.size, 3, none⟩), .pointer (some ⟨w1.heap.size, 4, none⟩)] 79)).drewN n1) from pw_below_drewN (below_alloc (below_alloc HB1.out _) _) _)
    generalize hga : w1.heap.size + 1 = ga at *
    have HLA := Aside0.mk (show w1.heap.size < ga by omega)
    clear hga

    have hcut : ∀ W : World, (Instr.sliceAt 79 (.pointer (some ⟨ga, 0, none⟩)) none (some (.int .i64 (q : Int))) none).run Tryd.prog W = .ok (.slice (some ⟨ga, 0, none⟩) q 3) W := fun W => run_sliceAt_to (e := 78) W (by kernel_rfl) (by kernel_rfl) hq
    go_wp2_with fail
    go_loopw [1, 8, 57] (fun v1 v8 v57 wr => pool_Get.Inv k l0 256 q acc at_ e w w.heap.size w1.heap.size ga h1 0 v1 v8 v57 wr) (fun v1 v8 v57 wr => (q - (intOf v57).toNat))
    case atStart => exact ⟨0, [], _, _, rfl, rfl, rfl, rfl, by omega, HGT.out, HBB.out, HGr.out, HGc.out, HGa.out⟩
    case round =>
      obtain ⟨i, ac, a2, e2, rfl, rfl, rfl, hal, hi, hgt, hB, hr, hc, hp⟩ := hrel.out
      clear hcut HGT HBB HGr HGc HGa
      by_cases hlt : i < q
      · have hpc : wr.cell? ⟨ga, i, none⟩ = some (.pointer (some ⟨w1.heap.size, 2 + i, none⟩)) := by
          rw [blk_cell hp i]
          have : i = 0 ∨ i = 1 ∨ i = 2 := by omega
          rcases this with rfl | rfl | rfl <;> rfl
        obtain ⟨d, hd⟩ : ∃ d, q - i = d + 1 := ⟨q - i - 1, by omega⟩
        rw [hd] at hgt
        have hd2 : d = q - (i + 1) := by omega
        subst hd2
        unfold pool_Get.gt at hgt
        by_cases he2 : e2 = 0
        · rw [if_pos he2] at hgt
          obtain ⟨⟨t1, t2, t3⟩, ht, hgt⟩ := Option.bind_eq_some_iff.1 hgt
          have HT := Aside0.mk ht
          have HGT := Aside0.mk hgt
          have HBX := Aside0.mk hB
          have HRX := Aside0.mk hr
          have HCX := Aside0.mk hc
          have HPX := Aside0.mk hp
          clear ht hgt hB hr hc hp hd
          subst he2
          go_wp2_with fail
          refine (bin_GetText.calls k A0 c0 l0 a2 256 t1 t2 t3 _ (Kd.C_below HR0.out HBX.out) HC0.out HT.out).mono ?_
          rintro e w5 ⟨rfl, hb5⟩
          have HBY := Aside0.mk (below_step HBX.out hb5)
          have HRY := Aside0.mk ((hb5.block _ (blk_lt HRX.out)).trans HRX.out)
          have HCY := Aside0.mk ((hb5.block _ (blk_lt HCX.out)).trans HCX.out)
          have HPY := Aside0.mk ((hb5.block _ (blk_lt HPX.out)).trans HPX.out)
          have hsc : w5.cell? ⟨w1.heap.size, 2 + i, none⟩ = some (.string (ac.getD i ⟨#[]⟩)) := by
            rw [blk_cell HCY.out (2 + i)]
            have : i = 0 ∨ i = 1 ∨ i = 2 := by omega
            rcases this with rfl | rfl | rfl <;> rfl
          have hsf : w5.frozen? ⟨w1.heap.size, 2 + i, none⟩ = false := blk_frozen HCY.out _
          clear hb5 hpc
          go_wp2_with fail
          go_roundw
          case rel =>
            refine ⟨i + 1, ac ++ [t1], t2, t3, rfl, rfl, by push_cast; rfl, by rw [List.length_append, hal]; rfl, by omega, HGT.out, HBY.out.setCell (HB1.out.size) _, ?_, ?_, ?_⟩
            · rw [heap_setCell_other _ _ _ _ (by have := HB1.out.size; have := HLT.out; simp; omega)]; exact HRY.out
            · rw [heap_setCell_same _ _ _ _ _ _ HCY.out]
              have : i = 0 ∨ i = 1 ∨ i = 2 := by omega
              rcases this with rfl | rfl | rfl
              · match ac, hal with
                | [], _ => rfl
              · match ac, hal with
                | [x], _ => rfl
              · match ac, hal with
                | [x, y], _ => rfl
            · rw [heap_setCell_other _ _ _ _ (by have := HLA.out; simp; omega)]; exact HPY.out
          case measure => simp [intOf]; omega
        · rw [if_neg he2] at hgt
          have HGT := Aside0.mk hgt
          have HBX := Aside0.mk hB
          have HRX := Aside0.mk hr
          have HCX := Aside0.mk hc
          have HPX := Aside0.mk hp
          clear hgt hB hr hc hp hd
          go_wp2_with fail
          go_roundw
          case rel =>
            refine ⟨i + 1, ac ++ [⟨#[]⟩], a2, e2, rfl, rfl, by push_cast; rfl, by rw [List.length_append, hal]; rfl, by omega, HGT.out, HBX.out, HRX.out, ?_, HPX.out⟩
            rw [HCX.out]
            have : i = 0 ∨ i = 1 ∨ i = 2 := by omega
            rcases this with rfl | rfl | rfl
            · match ac, hal with
              | [], _ => rfl
            · match ac, hal with
              | [x], _ => rfl
            · match ac, hal with
              | [x, y], _ => rfl
          case measure => simp [intOf]; omega
      · have hz : q - i = 0 := by omega
        rw [hz] at hgt
        unfold pool_Get.gt at hgt
        simp only [Option.some.injEq, Prod.mk.injEq] at hgt
        obtain ⟨rfl, rfl, rfl⟩ := hgt
        have HBX := Aside0.mk hB
        have HRX := Aside0.mk hr
        have HCX := Aside0.mk hc
        have hfin := HFIN.out
        unfold pool_Get.fin at hfin
        clear hB hr hc hp hz HFIN
        by_cases he2 : e2 = 0
        case neg =>
          rw [if_neg he2] at hfin
          simp only [Option.some.injEq, Prod.mk.injEq] at hfin
          obtain ⟨rfl, rfl, rfl, rfl, rfl, rfl, rfl⟩ := hfin
          go_wp2_with first
            | (refine wpList_store_row rfl 40 _ _ rfl w.heap.size _ rfl rfl 40 _ HRX.out I40.out rfl (by first | rfl | simp [Value.oneCell']) ?_)
          refine ⟨rfl, _, results_cell_q3 (fn := Tryd.f45) (p := 4) (q := 5) (s := 6) (ty := 40) rfl _ _ w.heap.size 40 _ (0, 0) _ rfl (setRow_heap _ _ _ _ _ _ HRX.out) Tryd.underlying40 rfl I40.out, rfl, HW.Below.setRow0 HBX.out (Nat.le_refl _) _⟩
        rw [if_pos he2] at hfin
        obtain ⟨ok, hok, hfin⟩ := Option.bind_eq_some_iff.1 hfin
        have HOK := Aside0.mk hok
        have HFIN := Aside0.mk hfin
        clear hok hfin
        subst he2
        go_wp2_with first
          | (refine wpList_load_row rfl 40 _ rfl w1.heap.size rfl 40 _ (0, 0) _ HCX.out Tryd.underlying40 rfl I40.out ?_)
        refine (pool_Right.calls k _ _ _ _ _ ok _ HOK.out).mono ?_
        rintro e w6 ⟨rfl, hb6⟩
        have HBY := Aside0.mk (below_step HBX.out hb6)
        have HRY := Aside0.mk ((hb6.block _ (blk_lt HRX.out)).trans HRX.out)
        have HCY := Aside0.mk ((hb6.block _ (blk_lt HCX.out)).trans HCX.out)
        clear hb6
        cases ok with
        | false =>
          have hfin := HFIN.out
          rw [if_neg (by decide)] at hfin
          simp only [Option.some.injEq, Prod.mk.injEq] at hfin
          obtain ⟨rfl, rfl, rfl, rfl, rfl, rfl, rfl⟩ := hfin
          clear HFIN
          go_wp2_with first
            | (refine wpList_store_row rfl 40 _ _ rfl w.heap.size _ rfl rfl 40 _ HRY.out I40.out rfl (by first | rfl | simp [Value.oneCell']) ?_)
          refine ⟨rfl, _, results_cell_q3 (fn := Tryd.f45) (p := 4) (q := 5) (s := 6) (ty := 40) rfl _ _ w.heap.size 40 _ (0, 0) _ rfl (setRow_heap _ _ _ _ _ _ HRY.out) Tryd.underlying40 rfl I40.out, rfl, HW.Below.setRow0 HBY.out (Nat.le_refl _) _⟩
        | true =>
          have hfin := HFIN.out
          rw [if_pos rfl] at hfin
          simp only [Option.some.injEq, Prod.mk.injEq] at hfin
          obtain ⟨rfl, rfl, rfl, rfl, rfl, rfl, rfl⟩ := hfin
          clear HFIN
          go_wp2_with first
            | (refine wpList_load_row rfl 40 _ rfl w1.heap.size rfl 40 _ (0, 0) _ HCY.out Tryd.underlying40 rfl I40.out ?_)
            | (refine wpList_store_row rfl 40 _ _ rfl w.heap.size _ rfl rfl 40 _ HRY.out I40.out rfl (by first | rfl | simp [Value.oneCell']) ?_)
          refine ⟨rfl, _, results_cell_q3 (fn := Tryd.f45) (p := 4) (q := 5) (s := 6) (ty := 40) rfl _ _ w.heap.size 40 _ (0, 0) _ rfl (setRow_heap _ _ _ _ _ _ HRY.out) Tryd.underlying40 rfl I40.out, rfl, HW.Below.setRow0 HBY.out (Nat.le_refl _) _⟩

end Go.Proofs.YtlnfaeegmcihfaaDoor.Q
