/- The program's and the document's comparison of two bundles, as contracts of the symbolic machine: each is equality. -/
import Derived.Test.YtaooangghieljaaGreatDoorBSame
namespace Go.Proofs.YtaooangghieljaaGreatDoor.AM
open Go Go.Proofs Go.RowKit
set_option linter.unusedVariables false
set_option linter.unusedSimpArgs false
abbrev tyV : Ty := .pair .str (.pair (.int .i64) (.pair .str (.slice tyI)))
abbrev tyT : Ty := .pair .str (.pair (.slice tyC) (.slice tyV))
abbrev tyB : Ty := .pair (.slice tyK) (.slice tyT)
def okLF (t : Ty) (c : FuncId) (args : List AV) : Prop := ∃ L M : List t.I, args = [encL t L, encL t M, .clo c [] []] ∧ L.length < 1000000000000000 ∧ ∀ x, x ∈ L → t.okay x
noncomputable def clLF (f : FuncId) (t : Ty) (c : FuncId) : Cl := ⟨f, okLF t c, eqRes⟩
theorem clLF_con {f : FuncId} {t : Ty} {c : FuncId} (hc : ∀ (L M : List t.I), L.length < 1000000000000000 → (∀ x, x ∈ L → t.okay x) → ∀ h, Con E0 f [encL t L, encL t M, .clo c [] []] h (.bool (ask (L = M))) h) : ∀ args, (clLF f t c).ok args → ∀ h, Con E0 (clLF f t c).f args h ((clLF f t c).res args) h := by
  rintro args ⟨L, M, rfl, hl, hok⟩ h
  have : (clLF f t c).res [encL t L, encL t M, .clo c [] []] = .bool (ask (L = M)) := congrArg AV.bool (ask_LL t L M)
  rw [this]
  exact hc L M hl hok h
theorem p23 (a0 : ByteArray) (a1 : Int) (a2 : ByteArray) (a3 : List tyI.I) (b0 : ByteArray) (b1 : Int) (b2 : ByteArray) (b3 : List tyI.I) : runV (XC 23 [10,17,24] [clLL 24 tyI]) (fun _ => none) Tryz.f23 (bodyOf Tryz.f23) [.agg [.str a0, .int .i64 a1, .str a2, encL tyI a3], .agg [.str b0, .int .i64 b1, .str b2, encL tyI b3]] =
  (T.br (decide (a0 = b0))
    (T.br (decide (a1 = b1))
      (T.br (decide (a2 = b2))
        (T.br (askQ (clLL (24 : FuncId) tyI).2
  [AV.lst (2 : Nat) (List.map tyI.elem a3) Tl.open_, AV.lst (2 : Nat) (List.map tyI.elem b3) Tl.open_])
          (T.leaf (AV.bool (ask (AV.lst 2 (List.map tyI.elem a3) Tl.open_ = AV.lst 2 (List.map tyI.elem b3) Tl.open_))))
          T.fail)
        (T.leaf (AV.bool false)))
      (T.br false
        (T.br (askQ (clLL (24 : FuncId) tyI).2
  [AV.lst (2 : Nat) (List.map tyI.elem a3) Tl.open_, AV.lst (2 : Nat) (List.map tyI.elem b3) Tl.open_])
          (T.leaf (AV.bool (ask (AV.lst 2 (List.map tyI.elem a3) Tl.open_ = AV.lst 2 (List.map tyI.elem b3) Tl.open_))))
          T.fail)
        (T.leaf (AV.bool false))))
    (T.br false
      (T.br (decide (a2 = b2))
        (T.br (askQ (clLL (24 : FuncId) tyI).2
  [AV.lst (2 : Nat) (List.map tyI.elem a3) Tl.open_, AV.lst (2 : Nat) (List.map tyI.elem b3) Tl.open_])
          (T.leaf (AV.bool (ask (AV.lst 2 (List.map tyI.elem a3) Tl.open_ = AV.lst 2 (List.map tyI.elem b3) Tl.open_))))
          T.fail)
        (T.leaf (AV.bool false)))
      (T.br false
        (T.br (askQ (clLL (24 : FuncId) tyI).2
  [AV.lst (2 : Nat) (List.map tyI.elem a3) Tl.open_, AV.lst (2 : Nat) (List.map tyI.elem b3) Tl.open_])
          (T.leaf (AV.bool (ask (AV.lst 2 (List.map tyI.elem a3) Tl.open_ = AV.lst 2 (List.map tyI.elem b3) Tl.open_))))
          T.fail)
        (T.leaf (AV.bool false))))) := by kernel_rfl
theorem same23 (a0 : ByteArray) (a1 : Int) (a2 : ByteArray) (a3 : List tyI.I) (b0 : ByteArray) (b1 : Int) (b2 : ByteArray) (b3 : List tyI.I) : ask (((a0, a1, a2, a3) : (ByteArray × Int × ByteArray × List tyI.I)) = (b0, b1, b2, b3)) = (decide (a0 = b0) && (decide (a1 = b1) && (decide (a2 = b2) && ask (a3 = b3)))) := by
  rw [ask_pair, ask_pair, ask_pair, ask_dec a0 b0, ask_dec a1 b1, ask_dec a2 b2]
theorem calls23 {X : SX} (hx : X.call = callsBy [clLL 24 tyI]) (hE : X.E = E0) : CallOK X.E X.calls := callsBy_ok hx fun c hc => by
  rw [hE]
  obtain rfl := List.mem_singleton.1 hc
  exact clLL_con con31
theorem con23r (a0 : ByteArray) (a1 : Int) (a2 : ByteArray) (a3 : List tyI.I) (b0 : ByteArray) (b1 : Int) (b2 : ByteArray) (b3 : List tyI.I) (l3 : a3.length < 1000000000000000) (h : H) :
    Con E0 23 [tyV.elem (a0, a1, a2, a3), tyV.elem (b0, b1, b2, b3)] h (.bool (ask (((a0, a1, a2, a3) : (ByteArray × Int × ByteArray × List tyI.I)) = (b0, b1, b2, b3)))) h := by
  have ht := congrArg T.run (p23 a0 a1 a2 a3 b0 b1 b2 b3)
  have q3 : askQ (clLL 24 tyI).2 [AV.lst 2 (List.map tyI.elem a3) Tl.open_, AV.lst 2 (List.map tyI.elem b3) Tl.open_] = true := ask_true ⟨a3, b3, rfl, l3⟩
  have e3 : ask (AV.lst 2 (List.map tyI.elem a3) Tl.open_ = AV.lst 2 (List.map tyI.elem b3) Tl.open_) = ask (a3 = b3) := ask_LL tyI a3 b3
  rw [q3, e3] at ht
  have hr : (runV (XC 23 [10,17,24] [clLL 24 tyI]) (fun _ => none) Tryz.f23 (bodyOf Tryz.f23) [tyV.elem (a0, a1, a2, a3), tyV.elem (b0, b1, b2, b3)]).run = .ok (.bool (ask (((a0, a1, a2, a3) : (ByteArray × Int × ByteArray × List tyI.I)) = (b0, b1, b2, b3)))) := by
    refine ht.trans ?_
    rw [same23]
    generalize decide (a0 = b0) = c0
    generalize decide (a1 = b1) = c1
    generalize decide (a2 = b2) = c2
    generalize ask (a3 = b3) = c3
    cases c0 <;> cases c1 <;> cases c2 <;> cases c3 <;> rfl
  exact Con.pureV (X := XC 23 [10,17,24] [clLL 24 tyI]) g0 noG0 (calls23 rfl rfl) (fn := Tryz.f23) Tryz.func23 (c := bodyOf Tryz.f23) rfl rfl (args := [tyV.elem (a0, a1, a2, a3), tyV.elem (b0, b1, b2, b3)]) KOK.none (noRefs2 tyV _ _) hr (Le.refl _) rfl h
theorem con23 (x y : tyV.I) (hx : tyV.okay x) (h : H) : Con E0 23 [tyV.elem x, tyV.elem y] h (.bool (ask (x = y))) h := by
  obtain ⟨a0, a1, a2, a3⟩ := x
  obtain ⟨b0, b1, b2, b3⟩ := y
  exact con23r a0 a1 a2 a3 b0 b1 b2 b3 (Nat.lt_of_le_of_lt hx.2.2.2.1 (by decide)) h
theorem shape_tyV (x : tyV.I) : AV.agg [AV.str ((tyV.elem x).cells.getD 0 undef).toS, AV.int .i64 ((tyV.elem x).cells.getD 1 undef).toI, AV.str ((tyV.elem x).cells.getD 2 undef).toS, AV.lst 2 ((tyV.elem x).cells.getD 3 undef).toL .open_] = tyV.elem x := by
  obtain ⟨a0, a1, a2, a3⟩ := x; rfl
theorem p22 (l m : List AV) (n i : Int) : obsK (XC 22 [14,18,30] [clEE 23 tyV]) (fun _ => none) 32 (sub (bodyOf Tryz.f22) [1,1,0,1,0,0]) [1,1,0,1,0,0] (frm [(1, .lst 4 m .open_), (2, .clo 23 [] []), (15, .lst 4 l .open_), (16, .int .i64 n), (17, .int .i64 i)]) [] [1,2,6,15,16,17] =
  (T.br (decide (i < n))
    (T.br (decide ((0 : Int) ≤ i) && decide (i < (↑l.length : Int)) &&
  fitsC Tryz.prog (46 : Nat) (l.getD i.toNat undef))
      (T.br (decide ((0 : Int) ≤ i) && decide (i < (↑m.length : Int)) &&
  fitsC Tryz.prog (46 : Nat) (m.getD i.toNat undef))
        (T.br (askQ (clEE (23 : FuncId) tyV).2
  [AV.agg
      [AV.str ((l.getD i.toNat undef).cells.getD (0 : Nat) undef).toS,
        AV.int IntKind.i64 ((l.getD i.toNat undef).cells.getD (1 : Nat) undef).toI,
        AV.str ((l.getD i.toNat undef).cells.getD (2 : Nat) undef).toS,
        AV.lst (2 : Nat) ((l.getD i.toNat undef).cells.getD (3 : Nat) undef).toL Tl.open_],
    AV.agg
      [AV.str ((m.getD i.toNat undef).cells.getD (0 : Nat) undef).toS,
        AV.int IntKind.i64 ((m.getD i.toNat undef).cells.getD (1 : Nat) undef).toI,
        AV.str ((m.getD i.toNat undef).cells.getD (2 : Nat) undef).toS,
        AV.lst (2 : Nat) ((m.getD i.toNat undef).cells.getD (3 : Nat) undef).toL Tl.open_]])
          (T.br (!ask
    (AV.agg
        [AV.str ((l.getD i.toNat undef).cells.getD (0 : Nat) undef).toS,
          AV.int IntKind.i64 ((l.getD i.toNat undef).cells.getD (1 : Nat) undef).toI,
          AV.str ((l.getD i.toNat undef).cells.getD (2 : Nat) undef).toS,
          AV.lst (2 : Nat) ((l.getD i.toNat undef).cells.getD (3 : Nat) undef).toL Tl.open_] =
      AV.agg
        [AV.str ((m.getD i.toNat undef).cells.getD (0 : Nat) undef).toS,
          AV.int IntKind.i64 ((m.getD i.toNat undef).cells.getD (1 : Nat) undef).toI,
          AV.str ((m.getD i.toNat undef).cells.getD (2 : Nat) undef).toS,
          AV.lst (2 : Nat) ((m.getD i.toNat undef).cells.getD (3 : Nat) undef).toL Tl.open_]))
            (T.leaf ((X.ret,
  [AV.lst 4 m Tl.open_, AV.clo 23 [] [], AV.bool false, AV.lst 4 l Tl.open_, AV.int IntKind.i64 n,
    AV.int IntKind.i64 i],
  [Blk.var
      [AV.str ((l.getD i.toNat undef).cells.getD 0 undef).toS,
        AV.int IntKind.i64 ((l.getD i.toNat undef).cells.getD 1 undef).toI,
        AV.str ((l.getD i.toNat undef).cells.getD 2 undef).toS,
        AV.lst 2 ((l.getD i.toNat undef).cells.getD 3 undef).toL Tl.open_],
    Blk.var
      [AV.str ((m.getD i.toNat undef).cells.getD 0 undef).toS,
        AV.int IntKind.i64 ((m.getD i.toNat undef).cells.getD 1 undef).toI,
        AV.str ((m.getD i.toNat undef).cells.getD 2 undef).toS,
        AV.lst 2 ((m.getD i.toNat undef).cells.getD 3 undef).toL Tl.open_]])))
            (T.leaf ((X.normal,
  [AV.lst 4 m Tl.open_, AV.clo 23 [] [], AV.fsl 0 [], AV.lst 4 l Tl.open_, AV.int IntKind.i64 n,
    AV.int IntKind.i64 (IntKind.i64.wrap (i + 1))],
  [Blk.var
      [AV.str ((l.getD i.toNat undef).cells.getD 0 undef).toS,
        AV.int IntKind.i64 ((l.getD i.toNat undef).cells.getD 1 undef).toI,
        AV.str ((l.getD i.toNat undef).cells.getD 2 undef).toS,
        AV.lst 2 ((l.getD i.toNat undef).cells.getD 3 undef).toL Tl.open_],
    Blk.var
      [AV.str ((m.getD i.toNat undef).cells.getD 0 undef).toS,
        AV.int IntKind.i64 ((m.getD i.toNat undef).cells.getD 1 undef).toI,
        AV.str ((m.getD i.toNat undef).cells.getD 2 undef).toS,
        AV.lst 2 ((m.getD i.toNat undef).cells.getD 3 undef).toL Tl.open_]]))))
          T.fail)
        T.fail)
      T.fail)
    (T.leaf ((X.exit 0,
  [AV.lst 4 m Tl.open_, AV.clo 23 [] [], AV.fsl 0 [], AV.lst 4 l Tl.open_, AV.int IntKind.i64 n, AV.int IntKind.i64 i],
  [])))) := by kernel_rfl
theorem callsF22 {X : SX} (hx : X.call = callsBy [clEE 23 tyV]) (hE : X.E = E0) : CallOK X.E X.calls := callsBy_ok hx fun c hc => by
  rw [hE]
  obtain rfl := List.mem_singleton.1 hc
  exact clEE_con con23
def st22 (L M : List tyV.I) (j : Nat) : List (Nat × AV) := [(1, encL tyV M), (2, .clo 23 [] []), (15, encL tyV L), (16, .int .i64 (((L.map tyV.elem).length : Nat) : Int)), (17, .int .i64 j)]
theorem p22r (L M : List tyV.I) : runV (XN 22 [14,18,30]) (kAt [1,1,0,1] (st22 L M 0) [] .ret [(6, .bool false)] []) Tryz.f22 (bodyOf Tryz.f22) [encL tyV L, encL tyV M, .clo 23 [] []] =
  (T.br (!decide ((↑(List.map tyV.elem L).length : Int) = (↑(List.map tyV.elem M).length : Int)))
    (T.leaf (AV.bool false))
    (T.br (askS
  [AV.lst (4 : Nat) (List.map tyV.elem M) Tl.open_, AV.clo (23 : Nat) [] [],
    AV.lst (4 : Nat) (List.map tyV.elem L) Tl.open_, AV.int IntKind.i64 (↑(List.map tyV.elem L).length : Int),
    AV.int IntKind.i64 (0 : Int)]
  [AV.lst (4 : Nat) (List.map tyV.elem M) Tl.open_, AV.clo (23 : Nat) [] [],
    AV.lst (4 : Nat) (List.map tyV.elem L) Tl.open_, AV.int IntKind.i64 (↑(List.map tyV.elem L).length : Int),
    AV.int IntKind.i64 (↑(0 : Nat) : Int)]
  [] [])
      (T.leaf (AV.bool false))
      T.fail)) := by kernel_rfl
theorem p22n (L M : List tyV.I) : runV (XN 22 [14,18,30]) (kAt [1,1,0,1] (st22 L M 0) [] .normal (st22 L M L.length) []) Tryz.f22 (bodyOf Tryz.f22) [encL tyV L, encL tyV M, .clo 23 [] []] =
  (T.br (!decide ((↑(List.map tyV.elem L).length : Int) = (↑(List.map tyV.elem M).length : Int)))
    (T.leaf (AV.bool false))
    (T.br (askS
  [AV.lst (4 : Nat) (List.map tyV.elem M) Tl.open_, AV.clo (23 : Nat) [] [],
    AV.lst (4 : Nat) (List.map tyV.elem L) Tl.open_, AV.int IntKind.i64 (↑(List.map tyV.elem L).length : Int),
    AV.int IntKind.i64 (0 : Int)]
  [AV.lst (4 : Nat) (List.map tyV.elem M) Tl.open_, AV.clo (23 : Nat) [] [],
    AV.lst (4 : Nat) (List.map tyV.elem L) Tl.open_, AV.int IntKind.i64 (↑(List.map tyV.elem L).length : Int),
    AV.int IntKind.i64 (↑(0 : Nat) : Int)]
  [] [])
      (T.leaf (AV.bool true))
      T.fail)) := by kernel_rfl
theorem p22x (L M : List tyV.I) : runV (XN 22 [14,18,30]) (kNo [1,1,0,1]) Tryz.f22 (bodyOf Tryz.f22) [encL tyV L, encL tyV M, .clo 23 [] []] =
  (T.br (!decide ((↑(List.map tyV.elem L).length : Int) = (↑(List.map tyV.elem M).length : Int)))
    (T.leaf (AV.bool false))
    T.fail) := by kernel_rfl
theorem go22 (L M : List tyV.I) (hlen : M.length = L.length) (hl : L.length < 1000000000000000) (hok : ∀ x, x ∈ L → tyV.okay x) (j : Nat) (hj : j < L.length) :
    (L.getD j tyV.zero = M.getD j tyV.zero → Tri E0 32 [] (sub (bodyOf Tryz.f22) [1,1,0,1,0,0]) (frm (st22 L M j)) [] .normal (frm (st22 L M (j + 1))) []) ∧
    (L.getD j tyV.zero ≠ M.getD j tyV.zero → Tri E0 32 [] (sub (bodyOf Tryz.f22) [1,1,0,1,0,0]) (frm (st22 L M j)) [] .ret (frm [(6, .bool false)]) []) := by
  have ht := p22 (L.map tyV.elem) (M.map tyV.elem) (((L.map tyV.elem).length : Nat) : Int) j
  have hjm : j < M.length := by omega
  have f0 : fitsC Tryz.prog 46 (tyV.elem tyV.zero) = true := by kernel_rfl
  have hx : tyV.okay (L.getD j tyV.zero) := hok _ (by rw [List.getD_eq_getElem?_getD, List.getElem?_eq_getElem hj]; exact List.getElem_mem hj)
  rw [idx_ok hj f0, idx_ok hjm f0, lt_ok hj, Int.toNat_natCast, getD_elem hj, getD_elem hjm, shape_tyV, shape_tyV, ask_EE tyV, wrap_next (by omega)] at ht
  have hq : askQ (clEE 23 tyV).2 [tyV.elem (L.getD j tyV.zero), tyV.elem (M.getD j tyV.zero)] = true := ask_true ⟨_, _, rfl, hx⟩
  rw [hq] at ht
  refine ⟨fun he => ?_, fun he => ?_⟩
  · rw [ask_true he] at ht
    exact Tri.seen0 (X := XC 22 [14,18,30] [clEE 23 tyV]) g0 noG0 (callsF22 rfl rfl) KOK.none rfl (congrArg T.run ht) (by
      intro q hq
      simp only [st22, List.mem_cons, List.not_mem_nil, or_false] at hq
      rcases hq with rfl | rfl | rfl | rfl | rfl <;> exact ⟨rfl, by first | exact encL_noRef _ _ | rfl, rfl⟩)
  · rw [ask_false he] at ht
    exact Tri.seen0 (X := XC 22 [14,18,30] [clEE 23 tyV]) g0 noG0 (callsF22 rfl rfl) KOK.none rfl (congrArg T.run ht) (by
      intro q hq
      simp only [List.mem_cons, List.not_mem_nil, or_false] at hq
      rcases hq with rfl; exact ⟨rfl, rfl, rfl⟩)
theorem out22 (L M : List tyV.I) : Tri E0 32 [] (sub (bodyOf Tryz.f22) [1,1,0,1,0,0]) (frm (st22 L M L.length)) [] (.exit 0) (frm (st22 L M L.length)) [] := by
  have ht := p22 (L.map tyV.elem) (M.map tyV.elem) (((L.map tyV.elem).length : Nat) : Int) L.length
  rw [lt_no] at ht
  exact Tri.seen (X := XC 22 [14,18,30] [clEE 23 tyV]) g0 (callsF22 rfl rfl) KOK.none rfl (congrArg T.run ht) (by
    intro q hq
    simp only [st22, List.mem_cons, List.not_mem_nil, or_false] at hq
    rcases hq with rfl | rfl | rfl | rfl | rfl <;> rfl)
theorem con22 (L M : List tyV.I) (hl : L.length < 1000000000000000) (hok : ∀ x, x ∈ L → tyV.okay x) (h : H) : Con E0 22 [encL tyV L, encL tyV M, .clo 23 [] []] h (.bool (ask (L = M))) h := by
  have hn : noRefs [encL tyV L, encL tyV M, .clo 23 [] []] = true := by simp only [noRefs, encL_noRef, Bool.and_true]; rfl
  have fin : ∀ {K : Known} {v : AV}, KOK E0 32 [] (bodyOf Tryz.f22) K → (runV (XN 22 [14,18,30]) K Tryz.f22 (bodyOf Tryz.f22) [encL tyV L, encL tyV M, .clo 23 [] []]).run = .ok v → v = .bool (ask (L = M)) → Con E0 22 [encL tyV L, encL tyV M, .clo 23 [] []] h (.bool (ask (L = M))) h := fun hk hr hv =>
    Con.pureV (X := XN 22 [14,18,30]) g0 noG0 (noCalls fun _ _ _ => rfl) (fn := Tryz.f22) Tryz.func22 (c := bodyOf Tryz.f22) rfl rfl (args := [encL tyV L, encL tyV M, .clo 23 [] []]) hk hn hr (hv ▸ Le.refl _) rfl h
  by_cases hm : L.length = M.length
  · have hd : (!decide ((((L.map tyV.elem).length : Nat) : Int) = (((M.map tyV.elem).length : Nat) : Int))) = false := by simp; omega
    obtain ⟨r1, r2⟩ := eq_rounds (L := L) (M := M) (z := tyV.zero) (st := st22 L M) (rt := [(6, .bool false)]) hm.symm (fun j hj => (go22 L M hm.symm hl hok j hj).1) (fun j hj => (go22 L M hm.symm hl hok j hj).2) (out22 L M)
    by_cases he : L = M
    · have hk : KOK E0 32 [] (bodyOf Tryz.f22) (kAt [1,1,0,1] (st22 L M 0) [] .normal (st22 L M L.length) []) := kAt_ok (Tri.block (id := 0) (Tri.loop (r1 he)))
      exact fin hk ((congrArg T.run (p22n L M)).trans (bF hd (bS rfl))) (by rw [ask_true he])
    · have hk : KOK E0 32 [] (bodyOf Tryz.f22) (kAt [1,1,0,1] (st22 L M 0) [] .ret [(6, .bool false)] []) := kAt_ok (Tri.block (id := 0) (Tri.loop (r2 he)))
      exact fin hk ((congrArg T.run (p22r L M)).trans (bF hd (bS rfl))) (by rw [ask_false he])
  · have hd : (!decide ((((L.map tyV.elem).length : Nat) : Int) = (((M.map tyV.elem).length : Nat) : Int))) = true := by simp; omega
    exact fin (kNo_ok (p := [1,1,0,1])) ((congrArg T.run (p22x L M)).trans (bT hd rfl)) (by rw [ask_false (fun h => hm (congrArg _ h))])
theorem p20 (a0 : ByteArray) (a1 : List tyC.I) (a2 : List tyV.I) (b0 : ByteArray) (b1 : List tyC.I) (b2 : List tyV.I) : runV (XC 20 [10,17] [clLL 21 tyC, clLF 22 tyV 23]) (fun _ => none) Tryz.f20 (bodyOf Tryz.f20) [.agg [.str a0, encL tyC a1, encL tyV a2], .agg [.str b0, encL tyC b1, encL tyV b2]] =
  (T.br (decide (a0 = b0))
    (T.br (askQ (clLL (21 : FuncId) tyC).2
  [AV.lst (5 : Nat) (List.map tyC.elem a1) Tl.open_, AV.lst (5 : Nat) (List.map tyC.elem b1) Tl.open_])
      (T.br (ask (AV.lst (5 : Nat) (List.map tyC.elem a1) Tl.open_ = AV.lst (5 : Nat) (List.map tyC.elem b1) Tl.open_))
        (T.br (askQ (clLF (22 : FuncId) tyV (23 : FuncId)).2
  [AV.lst (4 : Nat) (List.map tyV.elem a2) Tl.open_, AV.lst (4 : Nat) (List.map tyV.elem b2) Tl.open_,
    AV.clo (23 : Nat) [] []])
          (T.leaf (AV.bool (ask (AV.lst 4 (List.map tyV.elem a2) Tl.open_ = AV.lst 4 (List.map tyV.elem b2) Tl.open_))))
          T.fail)
        (T.leaf (AV.bool false)))
      T.fail)
    (T.br false
      (T.br (askQ (clLF (22 : FuncId) tyV (23 : FuncId)).2
  [AV.lst (4 : Nat) (List.map tyV.elem a2) Tl.open_, AV.lst (4 : Nat) (List.map tyV.elem b2) Tl.open_,
    AV.clo (23 : Nat) [] []])
        (T.leaf (AV.bool (ask (AV.lst 4 (List.map tyV.elem a2) Tl.open_ = AV.lst 4 (List.map tyV.elem b2) Tl.open_))))
        T.fail)
      (T.leaf (AV.bool false)))) := by kernel_rfl
theorem same20 (a0 : ByteArray) (a1 : List tyC.I) (a2 : List tyV.I) (b0 : ByteArray) (b1 : List tyC.I) (b2 : List tyV.I) : ask (((a0, a1, a2) : (ByteArray × List tyC.I × List tyV.I)) = (b0, b1, b2)) = (decide (a0 = b0) && (ask (a1 = b1) && ask (a2 = b2))) := by
  rw [ask_pair, ask_pair, ask_dec a0 b0]
theorem calls20 {X : SX} (hx : X.call = callsBy [clLL 21 tyC, clLF 22 tyV 23]) (hE : X.E = E0) : CallOK X.E X.calls := callsBy_ok hx fun c hc => by
  rw [hE]
  rcases List.mem_cons.1 hc with rfl | hc
  · exact clLL_con con27
  obtain rfl := List.mem_singleton.1 hc
  exact clLF_con con22
theorem con20r (a0 : ByteArray) (a1 : List tyC.I) (a2 : List tyV.I) (b0 : ByteArray) (b1 : List tyC.I) (b2 : List tyV.I) (l1 : a1.length < 1000000000000000) (l2 : a2.length < 1000000000000000) (o2 : ∀ x, x ∈ a2 → tyV.okay x) (h : H) :
    Con E0 20 [tyT.elem (a0, a1, a2), tyT.elem (b0, b1, b2)] h (.bool (ask (((a0, a1, a2) : (ByteArray × List tyC.I × List tyV.I)) = (b0, b1, b2)))) h := by
  have ht := congrArg T.run (p20 a0 a1 a2 b0 b1 b2)
  have q1 : askQ (clLL 21 tyC).2 [AV.lst 5 (List.map tyC.elem a1) Tl.open_, AV.lst 5 (List.map tyC.elem b1) Tl.open_] = true := ask_true ⟨a1, b1, rfl, l1⟩
  have e1 : ask (AV.lst 5 (List.map tyC.elem a1) Tl.open_ = AV.lst 5 (List.map tyC.elem b1) Tl.open_) = ask (a1 = b1) := ask_LL tyC a1 b1
  have q2 : askQ (clLF 22 tyV 23).2 [AV.lst 4 (List.map tyV.elem a2) Tl.open_, AV.lst 4 (List.map tyV.elem b2) Tl.open_, AV.clo 23 [] []] = true := ask_true ⟨a2, b2, rfl, l2, o2⟩
  have e2 : ask (AV.lst 4 (List.map tyV.elem a2) Tl.open_ = AV.lst 4 (List.map tyV.elem b2) Tl.open_) = ask (a2 = b2) := ask_LL tyV a2 b2
  rw [q1, q2, e1, e2] at ht
  have hr : (runV (XC 20 [10,17] [clLL 21 tyC, clLF 22 tyV 23]) (fun _ => none) Tryz.f20 (bodyOf Tryz.f20) [tyT.elem (a0, a1, a2), tyT.elem (b0, b1, b2)]).run = .ok (.bool (ask (((a0, a1, a2) : (ByteArray × List tyC.I × List tyV.I)) = (b0, b1, b2)))) := by
    refine ht.trans ?_
    rw [same20]
    generalize decide (a0 = b0) = c0
    generalize ask (a1 = b1) = c1
    generalize ask (a2 = b2) = c2
    cases c0 <;> cases c1 <;> cases c2 <;> rfl
  exact Con.pureV (X := XC 20 [10,17] [clLL 21 tyC, clLF 22 tyV 23]) g0 noG0 (calls20 rfl rfl) (fn := Tryz.f20) Tryz.func20 (c := bodyOf Tryz.f20) rfl rfl (args := [tyT.elem (a0, a1, a2), tyT.elem (b0, b1, b2)]) KOK.none (noRefs2 tyT _ _) hr (Le.refl _) rfl h
theorem con20 (x y : tyT.I) (hx : tyT.okay x) (h : H) : Con E0 20 [tyT.elem x, tyT.elem y] h (.bool (ask (x = y))) h := by
  obtain ⟨a0, a1, a2⟩ := x
  obtain ⟨b0, b1, b2⟩ := y
  exact con20r a0 a1 a2 b0 b1 b2 (Nat.lt_of_le_of_lt hx.2.1.1 (by decide)) (Nat.lt_of_le_of_lt hx.2.2.1 (by decide)) hx.2.2.2 h
theorem shape_tyT (x : tyT.I) : AV.agg [AV.str ((tyT.elem x).cells.getD 0 undef).toS, AV.lst 5 ((tyT.elem x).cells.getD 1 undef).toL .open_, AV.lst 4 ((tyT.elem x).cells.getD 2 undef).toL .open_] = tyT.elem x := by
  obtain ⟨a0, a1, a2⟩ := x; rfl
theorem p19 (l m : List AV) (n i : Int) : obsK (XC 19 [14,18,30] [clEE 20 tyT]) (fun _ => none) 32 (sub (bodyOf Tryz.f19) [1,1,0,1,0,0]) [1,1,0,1,0,0] (frm [(1, .lst 3 m .open_), (2, .clo 20 [] []), (15, .lst 3 l .open_), (16, .int .i64 n), (17, .int .i64 i)]) [] [1,2,6,15,16,17] =
  (T.br (decide (i < n))
    (T.br (decide ((0 : Int) ≤ i) && decide (i < (↑l.length : Int)) &&
  fitsC Tryz.prog (44 : Nat) (l.getD i.toNat undef))
      (T.br (decide ((0 : Int) ≤ i) && decide (i < (↑m.length : Int)) &&
  fitsC Tryz.prog (44 : Nat) (m.getD i.toNat undef))
        (T.br (askQ (clEE (20 : FuncId) tyT).2
  [AV.agg
      [AV.str ((l.getD i.toNat undef).cells.getD (0 : Nat) undef).toS,
        AV.lst (5 : Nat) ((l.getD i.toNat undef).cells.getD (1 : Nat) undef).toL Tl.open_,
        AV.lst (4 : Nat) ((l.getD i.toNat undef).cells.getD (2 : Nat) undef).toL Tl.open_],
    AV.agg
      [AV.str ((m.getD i.toNat undef).cells.getD (0 : Nat) undef).toS,
        AV.lst (5 : Nat) ((m.getD i.toNat undef).cells.getD (1 : Nat) undef).toL Tl.open_,
        AV.lst (4 : Nat) ((m.getD i.toNat undef).cells.getD (2 : Nat) undef).toL Tl.open_]])
          (T.br (!ask
    (AV.agg
        [AV.str ((l.getD i.toNat undef).cells.getD (0 : Nat) undef).toS,
          AV.lst (5 : Nat) ((l.getD i.toNat undef).cells.getD (1 : Nat) undef).toL Tl.open_,
          AV.lst (4 : Nat) ((l.getD i.toNat undef).cells.getD (2 : Nat) undef).toL Tl.open_] =
      AV.agg
        [AV.str ((m.getD i.toNat undef).cells.getD (0 : Nat) undef).toS,
          AV.lst (5 : Nat) ((m.getD i.toNat undef).cells.getD (1 : Nat) undef).toL Tl.open_,
          AV.lst (4 : Nat) ((m.getD i.toNat undef).cells.getD (2 : Nat) undef).toL Tl.open_]))
            (T.leaf ((X.ret,
  [AV.lst 3 m Tl.open_, AV.clo 20 [] [], AV.bool false, AV.lst 3 l Tl.open_, AV.int IntKind.i64 n,
    AV.int IntKind.i64 i],
  [Blk.var
      [AV.str ((l.getD i.toNat undef).cells.getD 0 undef).toS,
        AV.lst 5 ((l.getD i.toNat undef).cells.getD 1 undef).toL Tl.open_,
        AV.lst 4 ((l.getD i.toNat undef).cells.getD 2 undef).toL Tl.open_],
    Blk.var
      [AV.str ((m.getD i.toNat undef).cells.getD 0 undef).toS,
        AV.lst 5 ((m.getD i.toNat undef).cells.getD 1 undef).toL Tl.open_,
        AV.lst 4 ((m.getD i.toNat undef).cells.getD 2 undef).toL Tl.open_]])))
            (T.leaf ((X.normal,
  [AV.lst 3 m Tl.open_, AV.clo 20 [] [], AV.fsl 0 [], AV.lst 3 l Tl.open_, AV.int IntKind.i64 n,
    AV.int IntKind.i64 (IntKind.i64.wrap (i + 1))],
  [Blk.var
      [AV.str ((l.getD i.toNat undef).cells.getD 0 undef).toS,
        AV.lst 5 ((l.getD i.toNat undef).cells.getD 1 undef).toL Tl.open_,
        AV.lst 4 ((l.getD i.toNat undef).cells.getD 2 undef).toL Tl.open_],
    Blk.var
      [AV.str ((m.getD i.toNat undef).cells.getD 0 undef).toS,
        AV.lst 5 ((m.getD i.toNat undef).cells.getD 1 undef).toL Tl.open_,
        AV.lst 4 ((m.getD i.toNat undef).cells.getD 2 undef).toL Tl.open_]]))))
          T.fail)
        T.fail)
      T.fail)
    (T.leaf ((X.exit 0,
  [AV.lst 3 m Tl.open_, AV.clo 20 [] [], AV.fsl 0 [], AV.lst 3 l Tl.open_, AV.int IntKind.i64 n, AV.int IntKind.i64 i],
  [])))) := by kernel_rfl
theorem callsF19 {X : SX} (hx : X.call = callsBy [clEE 20 tyT]) (hE : X.E = E0) : CallOK X.E X.calls := callsBy_ok hx fun c hc => by
  rw [hE]
  obtain rfl := List.mem_singleton.1 hc
  exact clEE_con con20
def st19 (L M : List tyT.I) (j : Nat) : List (Nat × AV) := [(1, encL tyT M), (2, .clo 20 [] []), (15, encL tyT L), (16, .int .i64 (((L.map tyT.elem).length : Nat) : Int)), (17, .int .i64 j)]
theorem p19r (L M : List tyT.I) : runV (XN 19 [14,18,30]) (kAt [1,1,0,1] (st19 L M 0) [] .ret [(6, .bool false)] []) Tryz.f19 (bodyOf Tryz.f19) [encL tyT L, encL tyT M, .clo 20 [] []] =
  (T.br (!decide ((↑(List.map tyT.elem L).length : Int) = (↑(List.map tyT.elem M).length : Int)))
    (T.leaf (AV.bool false))
    (T.br (askS
  [AV.lst (3 : Nat) (List.map tyT.elem M) Tl.open_, AV.clo (20 : Nat) [] [],
    AV.lst (3 : Nat) (List.map tyT.elem L) Tl.open_, AV.int IntKind.i64 (↑(List.map tyT.elem L).length : Int),
    AV.int IntKind.i64 (0 : Int)]
  [AV.lst (3 : Nat) (List.map tyT.elem M) Tl.open_, AV.clo (20 : Nat) [] [],
    AV.lst (3 : Nat) (List.map tyT.elem L) Tl.open_, AV.int IntKind.i64 (↑(List.map tyT.elem L).length : Int),
    AV.int IntKind.i64 (↑(0 : Nat) : Int)]
  [] [])
      (T.leaf (AV.bool false))
      T.fail)) := by kernel_rfl
theorem p19n (L M : List tyT.I) : runV (XN 19 [14,18,30]) (kAt [1,1,0,1] (st19 L M 0) [] .normal (st19 L M L.length) []) Tryz.f19 (bodyOf Tryz.f19) [encL tyT L, encL tyT M, .clo 20 [] []] =
  (T.br (!decide ((↑(List.map tyT.elem L).length : Int) = (↑(List.map tyT.elem M).length : Int)))
    (T.leaf (AV.bool false))
    (T.br (askS
  [AV.lst (3 : Nat) (List.map tyT.elem M) Tl.open_, AV.clo (20 : Nat) [] [],
    AV.lst (3 : Nat) (List.map tyT.elem L) Tl.open_, AV.int IntKind.i64 (↑(List.map tyT.elem L).length : Int),
    AV.int IntKind.i64 (0 : Int)]
  [AV.lst (3 : Nat) (List.map tyT.elem M) Tl.open_, AV.clo (20 : Nat) [] [],
    AV.lst (3 : Nat) (List.map tyT.elem L) Tl.open_, AV.int IntKind.i64 (↑(List.map tyT.elem L).length : Int),
    AV.int IntKind.i64 (↑(0 : Nat) : Int)]
  [] [])
      (T.leaf (AV.bool true))
      T.fail)) := by kernel_rfl
theorem p19x (L M : List tyT.I) : runV (XN 19 [14,18,30]) (kNo [1,1,0,1]) Tryz.f19 (bodyOf Tryz.f19) [encL tyT L, encL tyT M, .clo 20 [] []] =
  (T.br (!decide ((↑(List.map tyT.elem L).length : Int) = (↑(List.map tyT.elem M).length : Int)))
    (T.leaf (AV.bool false))
    T.fail) := by kernel_rfl
theorem go19 (L M : List tyT.I) (hlen : M.length = L.length) (hl : L.length < 1000000000000000) (hok : ∀ x, x ∈ L → tyT.okay x) (j : Nat) (hj : j < L.length) :
    (L.getD j tyT.zero = M.getD j tyT.zero → Tri E0 32 [] (sub (bodyOf Tryz.f19) [1,1,0,1,0,0]) (frm (st19 L M j)) [] .normal (frm (st19 L M (j + 1))) []) ∧
    (L.getD j tyT.zero ≠ M.getD j tyT.zero → Tri E0 32 [] (sub (bodyOf Tryz.f19) [1,1,0,1,0,0]) (frm (st19 L M j)) [] .ret (frm [(6, .bool false)]) []) := by
  have ht := p19 (L.map tyT.elem) (M.map tyT.elem) (((L.map tyT.elem).length : Nat) : Int) j
  have hjm : j < M.length := by omega
  have f0 : fitsC Tryz.prog 44 (tyT.elem tyT.zero) = true := by kernel_rfl
  have hx : tyT.okay (L.getD j tyT.zero) := hok _ (by rw [List.getD_eq_getElem?_getD, List.getElem?_eq_getElem hj]; exact List.getElem_mem hj)
  rw [idx_ok hj f0, idx_ok hjm f0, lt_ok hj, Int.toNat_natCast, getD_elem hj, getD_elem hjm, shape_tyT, shape_tyT, ask_EE tyT, wrap_next (by omega)] at ht
  have hq : askQ (clEE 20 tyT).2 [tyT.elem (L.getD j tyT.zero), tyT.elem (M.getD j tyT.zero)] = true := ask_true ⟨_, _, rfl, hx⟩
  rw [hq] at ht
  refine ⟨fun he => ?_, fun he => ?_⟩
  · rw [ask_true he] at ht
    exact Tri.seen0 (X := XC 19 [14,18,30] [clEE 20 tyT]) g0 noG0 (callsF19 rfl rfl) KOK.none rfl (congrArg T.run ht) (by
      intro q hq
      simp only [st19, List.mem_cons, List.not_mem_nil, or_false] at hq
      rcases hq with rfl | rfl | rfl | rfl | rfl <;> exact ⟨rfl, by first | exact encL_noRef _ _ | rfl, rfl⟩)
  · rw [ask_false he] at ht
    exact Tri.seen0 (X := XC 19 [14,18,30] [clEE 20 tyT]) g0 noG0 (callsF19 rfl rfl) KOK.none rfl (congrArg T.run ht) (by
      intro q hq
      simp only [List.mem_cons, List.not_mem_nil, or_false] at hq
      rcases hq with rfl; exact ⟨rfl, rfl, rfl⟩)
theorem out19 (L M : List tyT.I) : Tri E0 32 [] (sub (bodyOf Tryz.f19) [1,1,0,1,0,0]) (frm (st19 L M L.length)) [] (.exit 0) (frm (st19 L M L.length)) [] := by
  have ht := p19 (L.map tyT.elem) (M.map tyT.elem) (((L.map tyT.elem).length : Nat) : Int) L.length
  rw [lt_no] at ht
  exact Tri.seen (X := XC 19 [14,18,30] [clEE 20 tyT]) g0 (callsF19 rfl rfl) KOK.none rfl (congrArg T.run ht) (by
    intro q hq
    simp only [st19, List.mem_cons, List.not_mem_nil, or_false] at hq
    rcases hq with rfl | rfl | rfl | rfl | rfl <;> rfl)
theorem con19 (L M : List tyT.I) (hl : L.length < 1000000000000000) (hok : ∀ x, x ∈ L → tyT.okay x) (h : H) : Con E0 19 [encL tyT L, encL tyT M, .clo 20 [] []] h (.bool (ask (L = M))) h := by
  have hn : noRefs [encL tyT L, encL tyT M, .clo 20 [] []] = true := by simp only [noRefs, encL_noRef, Bool.and_true]; rfl
  have fin : ∀ {K : Known} {v : AV}, KOK E0 32 [] (bodyOf Tryz.f19) K → (runV (XN 19 [14,18,30]) K Tryz.f19 (bodyOf Tryz.f19) [encL tyT L, encL tyT M, .clo 20 [] []]).run = .ok v → v = .bool (ask (L = M)) → Con E0 19 [encL tyT L, encL tyT M, .clo 20 [] []] h (.bool (ask (L = M))) h := fun hk hr hv =>
    Con.pureV (X := XN 19 [14,18,30]) g0 noG0 (noCalls fun _ _ _ => rfl) (fn := Tryz.f19) Tryz.func19 (c := bodyOf Tryz.f19) rfl rfl (args := [encL tyT L, encL tyT M, .clo 20 [] []]) hk hn hr (hv ▸ Le.refl _) rfl h
  by_cases hm : L.length = M.length
  · have hd : (!decide ((((L.map tyT.elem).length : Nat) : Int) = (((M.map tyT.elem).length : Nat) : Int))) = false := by simp; omega
    obtain ⟨r1, r2⟩ := eq_rounds (L := L) (M := M) (z := tyT.zero) (st := st19 L M) (rt := [(6, .bool false)]) hm.symm (fun j hj => (go19 L M hm.symm hl hok j hj).1) (fun j hj => (go19 L M hm.symm hl hok j hj).2) (out19 L M)
    by_cases he : L = M
    · have hk : KOK E0 32 [] (bodyOf Tryz.f19) (kAt [1,1,0,1] (st19 L M 0) [] .normal (st19 L M L.length) []) := kAt_ok (Tri.block (id := 0) (Tri.loop (r1 he)))
      exact fin hk ((congrArg T.run (p19n L M)).trans (bF hd (bS rfl))) (by rw [ask_true he])
    · have hk : KOK E0 32 [] (bodyOf Tryz.f19) (kAt [1,1,0,1] (st19 L M 0) [] .ret [(6, .bool false)] []) := kAt_ok (Tri.block (id := 0) (Tri.loop (r2 he)))
      exact fin hk ((congrArg T.run (p19r L M)).trans (bF hd (bS rfl))) (by rw [ask_false he])
  · have hd : (!decide ((((L.map tyT.elem).length : Nat) : Int) = (((M.map tyT.elem).length : Nat) : Int))) = true := by simp; omega
    exact fin (kNo_ok (p := [1,1,0,1])) ((congrArg T.run (p19x L M)).trans (bT hd rfl)) (by rw [ask_false (fun h => hm (congrArg _ h))])
theorem shape_tyK (x : tyK.I) : AV.agg [AV.str ((tyK.elem x).cells.getD 0 undef).toS, AV.str ((tyK.elem x).cells.getD 1 undef).toS, AV.lst 5 ((tyK.elem x).cells.getD 2 undef).toL .open_, AV.lst 2 ((tyK.elem x).cells.getD 3 undef).toL .open_, AV.lst 5 ((tyK.elem x).cells.getD 4 undef).toL .open_] = tyK.elem x := by
  obtain ⟨a0, a1, a2, a3, a4⟩ := x; rfl
theorem p17 (l m : List AV) (n i : Int) : obsK (XC 17 [14,18,30] [clEE 18 tyK]) (fun _ => none) 32 (sub (bodyOf Tryz.f17) [1,1,0,1,0,0]) [1,1,0,1,0,0] (frm [(1, .lst 5 m .open_), (2, .clo 18 [] []), (15, .lst 5 l .open_), (16, .int .i64 n), (17, .int .i64 i)]) [] [1,2,6,15,16,17] =
  (T.br (decide (i < n))
    (T.br (decide ((0 : Int) ≤ i) && decide (i < (↑l.length : Int)) &&
  fitsC Tryz.prog (37 : Nat) (l.getD i.toNat undef))
      (T.br (decide ((0 : Int) ≤ i) && decide (i < (↑m.length : Int)) &&
  fitsC Tryz.prog (37 : Nat) (m.getD i.toNat undef))
        (T.br (askQ (clEE (18 : FuncId) tyK).2
  [AV.agg
      [AV.str ((l.getD i.toNat undef).cells.getD (0 : Nat) undef).toS,
        AV.str ((l.getD i.toNat undef).cells.getD (1 : Nat) undef).toS,
        AV.lst (5 : Nat) ((l.getD i.toNat undef).cells.getD (2 : Nat) undef).toL Tl.open_,
        AV.lst (2 : Nat) ((l.getD i.toNat undef).cells.getD (3 : Nat) undef).toL Tl.open_,
        AV.lst (5 : Nat) ((l.getD i.toNat undef).cells.getD (4 : Nat) undef).toL Tl.open_],
    AV.agg
      [AV.str ((m.getD i.toNat undef).cells.getD (0 : Nat) undef).toS,
        AV.str ((m.getD i.toNat undef).cells.getD (1 : Nat) undef).toS,
        AV.lst (5 : Nat) ((m.getD i.toNat undef).cells.getD (2 : Nat) undef).toL Tl.open_,
        AV.lst (2 : Nat) ((m.getD i.toNat undef).cells.getD (3 : Nat) undef).toL Tl.open_,
        AV.lst (5 : Nat) ((m.getD i.toNat undef).cells.getD (4 : Nat) undef).toL Tl.open_]])
          (T.br (!ask
    (AV.agg
        [AV.str ((l.getD i.toNat undef).cells.getD (0 : Nat) undef).toS,
          AV.str ((l.getD i.toNat undef).cells.getD (1 : Nat) undef).toS,
          AV.lst (5 : Nat) ((l.getD i.toNat undef).cells.getD (2 : Nat) undef).toL Tl.open_,
          AV.lst (2 : Nat) ((l.getD i.toNat undef).cells.getD (3 : Nat) undef).toL Tl.open_,
          AV.lst (5 : Nat) ((l.getD i.toNat undef).cells.getD (4 : Nat) undef).toL Tl.open_] =
      AV.agg
        [AV.str ((m.getD i.toNat undef).cells.getD (0 : Nat) undef).toS,
          AV.str ((m.getD i.toNat undef).cells.getD (1 : Nat) undef).toS,
          AV.lst (5 : Nat) ((m.getD i.toNat undef).cells.getD (2 : Nat) undef).toL Tl.open_,
          AV.lst (2 : Nat) ((m.getD i.toNat undef).cells.getD (3 : Nat) undef).toL Tl.open_,
          AV.lst (5 : Nat) ((m.getD i.toNat undef).cells.getD (4 : Nat) undef).toL Tl.open_]))
            (T.leaf ((X.ret,
  [AV.lst 5 m Tl.open_, AV.clo 18 [] [], AV.bool false, AV.lst 5 l Tl.open_, AV.int IntKind.i64 n,
    AV.int IntKind.i64 i],
  [Blk.var
      [AV.str ((l.getD i.toNat undef).cells.getD 0 undef).toS, AV.str ((l.getD i.toNat undef).cells.getD 1 undef).toS,
        AV.lst 5 ((l.getD i.toNat undef).cells.getD 2 undef).toL Tl.open_,
        AV.lst 2 ((l.getD i.toNat undef).cells.getD 3 undef).toL Tl.open_,
        AV.lst 5 ((l.getD i.toNat undef).cells.getD 4 undef).toL Tl.open_],
    Blk.var
      [AV.str ((m.getD i.toNat undef).cells.getD 0 undef).toS, AV.str ((m.getD i.toNat undef).cells.getD 1 undef).toS,
        AV.lst 5 ((m.getD i.toNat undef).cells.getD 2 undef).toL Tl.open_,
        AV.lst 2 ((m.getD i.toNat undef).cells.getD 3 undef).toL Tl.open_,
        AV.lst 5 ((m.getD i.toNat undef).cells.getD 4 undef).toL Tl.open_]])))
            (T.leaf ((X.normal,
  [AV.lst 5 m Tl.open_, AV.clo 18 [] [], AV.fsl 0 [], AV.lst 5 l Tl.open_, AV.int IntKind.i64 n,
    AV.int IntKind.i64 (IntKind.i64.wrap (i + 1))],
  [Blk.var
      [AV.str ((l.getD i.toNat undef).cells.getD 0 undef).toS, AV.str ((l.getD i.toNat undef).cells.getD 1 undef).toS,
        AV.lst 5 ((l.getD i.toNat undef).cells.getD 2 undef).toL Tl.open_,
        AV.lst 2 ((l.getD i.toNat undef).cells.getD 3 undef).toL Tl.open_,
        AV.lst 5 ((l.getD i.toNat undef).cells.getD 4 undef).toL Tl.open_],
    Blk.var
      [AV.str ((m.getD i.toNat undef).cells.getD 0 undef).toS, AV.str ((m.getD i.toNat undef).cells.getD 1 undef).toS,
        AV.lst 5 ((m.getD i.toNat undef).cells.getD 2 undef).toL Tl.open_,
        AV.lst 2 ((m.getD i.toNat undef).cells.getD 3 undef).toL Tl.open_,
        AV.lst 5 ((m.getD i.toNat undef).cells.getD 4 undef).toL Tl.open_]]))))
          T.fail)
        T.fail)
      T.fail)
    (T.leaf ((X.exit 0,
  [AV.lst 5 m Tl.open_, AV.clo 18 [] [], AV.fsl 0 [], AV.lst 5 l Tl.open_, AV.int IntKind.i64 n, AV.int IntKind.i64 i],
  [])))) := by kernel_rfl
theorem callsF17 {X : SX} (hx : X.call = callsBy [clEE 18 tyK]) (hE : X.E = E0) : CallOK X.E X.calls := callsBy_ok hx fun c hc => by
  rw [hE]
  obtain rfl := List.mem_singleton.1 hc
  exact clEE_con con10
def st17 (L M : List tyK.I) (j : Nat) : List (Nat × AV) := [(1, encL tyK M), (2, .clo 18 [] []), (15, encL tyK L), (16, .int .i64 (((L.map tyK.elem).length : Nat) : Int)), (17, .int .i64 j)]
theorem p17r (L M : List tyK.I) : runV (XN 17 [14,18,30]) (kAt [1,1,0,1] (st17 L M 0) [] .ret [(6, .bool false)] []) Tryz.f17 (bodyOf Tryz.f17) [encL tyK L, encL tyK M, .clo 18 [] []] =
  (T.br (!decide ((↑(List.map tyK.elem L).length : Int) = (↑(List.map tyK.elem M).length : Int)))
    (T.leaf (AV.bool false))
    (T.br (askS
  [AV.lst (5 : Nat) (List.map tyK.elem M) Tl.open_, AV.clo (18 : Nat) [] [],
    AV.lst (5 : Nat) (List.map tyK.elem L) Tl.open_, AV.int IntKind.i64 (↑(List.map tyK.elem L).length : Int),
    AV.int IntKind.i64 (0 : Int)]
  [AV.lst (5 : Nat) (List.map tyK.elem M) Tl.open_, AV.clo (18 : Nat) [] [],
    AV.lst (5 : Nat) (List.map tyK.elem L) Tl.open_, AV.int IntKind.i64 (↑(List.map tyK.elem L).length : Int),
    AV.int IntKind.i64 (↑(0 : Nat) : Int)]
  [] [])
      (T.leaf (AV.bool false))
      T.fail)) := by kernel_rfl
theorem p17n (L M : List tyK.I) : runV (XN 17 [14,18,30]) (kAt [1,1,0,1] (st17 L M 0) [] .normal (st17 L M L.length) []) Tryz.f17 (bodyOf Tryz.f17) [encL tyK L, encL tyK M, .clo 18 [] []] =
  (T.br (!decide ((↑(List.map tyK.elem L).length : Int) = (↑(List.map tyK.elem M).length : Int)))
    (T.leaf (AV.bool false))
    (T.br (askS
  [AV.lst (5 : Nat) (List.map tyK.elem M) Tl.open_, AV.clo (18 : Nat) [] [],
    AV.lst (5 : Nat) (List.map tyK.elem L) Tl.open_, AV.int IntKind.i64 (↑(List.map tyK.elem L).length : Int),
    AV.int IntKind.i64 (0 : Int)]
  [AV.lst (5 : Nat) (List.map tyK.elem M) Tl.open_, AV.clo (18 : Nat) [] [],
    AV.lst (5 : Nat) (List.map tyK.elem L) Tl.open_, AV.int IntKind.i64 (↑(List.map tyK.elem L).length : Int),
    AV.int IntKind.i64 (↑(0 : Nat) : Int)]
  [] [])
      (T.leaf (AV.bool true))
      T.fail)) := by kernel_rfl
theorem p17x (L M : List tyK.I) : runV (XN 17 [14,18,30]) (kNo [1,1,0,1]) Tryz.f17 (bodyOf Tryz.f17) [encL tyK L, encL tyK M, .clo 18 [] []] =
  (T.br (!decide ((↑(List.map tyK.elem L).length : Int) = (↑(List.map tyK.elem M).length : Int)))
    (T.leaf (AV.bool false))
    T.fail) := by kernel_rfl
theorem go17 (L M : List tyK.I) (hlen : M.length = L.length) (hl : L.length < 1000000000000000) (hok : ∀ x, x ∈ L → tyK.okay x) (j : Nat) (hj : j < L.length) :
    (L.getD j tyK.zero = M.getD j tyK.zero → Tri E0 32 [] (sub (bodyOf Tryz.f17) [1,1,0,1,0,0]) (frm (st17 L M j)) [] .normal (frm (st17 L M (j + 1))) []) ∧
    (L.getD j tyK.zero ≠ M.getD j tyK.zero → Tri E0 32 [] (sub (bodyOf Tryz.f17) [1,1,0,1,0,0]) (frm (st17 L M j)) [] .ret (frm [(6, .bool false)]) []) := by
  have ht := p17 (L.map tyK.elem) (M.map tyK.elem) (((L.map tyK.elem).length : Nat) : Int) j
  have hjm : j < M.length := by omega
  have f0 : fitsC Tryz.prog 37 (tyK.elem tyK.zero) = true := by kernel_rfl
  have hx : tyK.okay (L.getD j tyK.zero) := hok _ (by rw [List.getD_eq_getElem?_getD, List.getElem?_eq_getElem hj]; exact List.getElem_mem hj)
  rw [idx_ok hj f0, idx_ok hjm f0, lt_ok hj, Int.toNat_natCast, getD_elem hj, getD_elem hjm, shape_tyK, shape_tyK, ask_EE tyK, wrap_next (by omega)] at ht
  have hq : askQ (clEE 18 tyK).2 [tyK.elem (L.getD j tyK.zero), tyK.elem (M.getD j tyK.zero)] = true := ask_true ⟨_, _, rfl, hx⟩
  rw [hq] at ht
  refine ⟨fun he => ?_, fun he => ?_⟩
  · rw [ask_true he] at ht
    exact Tri.seen0 (X := XC 17 [14,18,30] [clEE 18 tyK]) g0 noG0 (callsF17 rfl rfl) KOK.none rfl (congrArg T.run ht) (by
      intro q hq
      simp only [st17, List.mem_cons, List.not_mem_nil, or_false] at hq
      rcases hq with rfl | rfl | rfl | rfl | rfl <;> exact ⟨rfl, by first | exact encL_noRef _ _ | rfl, rfl⟩)
  · rw [ask_false he] at ht
    exact Tri.seen0 (X := XC 17 [14,18,30] [clEE 18 tyK]) g0 noG0 (callsF17 rfl rfl) KOK.none rfl (congrArg T.run ht) (by
      intro q hq
      simp only [List.mem_cons, List.not_mem_nil, or_false] at hq
      rcases hq with rfl; exact ⟨rfl, rfl, rfl⟩)
theorem out17 (L M : List tyK.I) : Tri E0 32 [] (sub (bodyOf Tryz.f17) [1,1,0,1,0,0]) (frm (st17 L M L.length)) [] (.exit 0) (frm (st17 L M L.length)) [] := by
  have ht := p17 (L.map tyK.elem) (M.map tyK.elem) (((L.map tyK.elem).length : Nat) : Int) L.length
  rw [lt_no] at ht
  exact Tri.seen (X := XC 17 [14,18,30] [clEE 18 tyK]) g0 (callsF17 rfl rfl) KOK.none rfl (congrArg T.run ht) (by
    intro q hq
    simp only [st17, List.mem_cons, List.not_mem_nil, or_false] at hq
    rcases hq with rfl | rfl | rfl | rfl | rfl <;> rfl)
theorem con17 (L M : List tyK.I) (hl : L.length < 1000000000000000) (hok : ∀ x, x ∈ L → tyK.okay x) (h : H) : Con E0 17 [encL tyK L, encL tyK M, .clo 18 [] []] h (.bool (ask (L = M))) h := by
  have hn : noRefs [encL tyK L, encL tyK M, .clo 18 [] []] = true := by simp only [noRefs, encL_noRef, Bool.and_true]; rfl
  have fin : ∀ {K : Known} {v : AV}, KOK E0 32 [] (bodyOf Tryz.f17) K → (runV (XN 17 [14,18,30]) K Tryz.f17 (bodyOf Tryz.f17) [encL tyK L, encL tyK M, .clo 18 [] []]).run = .ok v → v = .bool (ask (L = M)) → Con E0 17 [encL tyK L, encL tyK M, .clo 18 [] []] h (.bool (ask (L = M))) h := fun hk hr hv =>
    Con.pureV (X := XN 17 [14,18,30]) g0 noG0 (noCalls fun _ _ _ => rfl) (fn := Tryz.f17) Tryz.func17 (c := bodyOf Tryz.f17) rfl rfl (args := [encL tyK L, encL tyK M, .clo 18 [] []]) hk hn hr (hv ▸ Le.refl _) rfl h
  by_cases hm : L.length = M.length
  · have hd : (!decide ((((L.map tyK.elem).length : Nat) : Int) = (((M.map tyK.elem).length : Nat) : Int))) = false := by simp; omega
    obtain ⟨r1, r2⟩ := eq_rounds (L := L) (M := M) (z := tyK.zero) (st := st17 L M) (rt := [(6, .bool false)]) hm.symm (fun j hj => (go17 L M hm.symm hl hok j hj).1) (fun j hj => (go17 L M hm.symm hl hok j hj).2) (out17 L M)
    by_cases he : L = M
    · have hk : KOK E0 32 [] (bodyOf Tryz.f17) (kAt [1,1,0,1] (st17 L M 0) [] .normal (st17 L M L.length) []) := kAt_ok (Tri.block (id := 0) (Tri.loop (r1 he)))
      exact fin hk ((congrArg T.run (p17n L M)).trans (bF hd (bS rfl))) (by rw [ask_true he])
    · have hk : KOK E0 32 [] (bodyOf Tryz.f17) (kAt [1,1,0,1] (st17 L M 0) [] .ret [(6, .bool false)] []) := kAt_ok (Tri.block (id := 0) (Tri.loop (r2 he)))
      exact fin hk ((congrArg T.run (p17r L M)).trans (bF hd (bS rfl))) (by rw [ask_false he])
  · have hd : (!decide ((((L.map tyK.elem).length : Nat) : Int) = (((M.map tyK.elem).length : Nat) : Int))) = true := by simp; omega
    exact fin (kNo_ok (p := [1,1,0,1])) ((congrArg T.run (p17x L M)).trans (bT hd rfl)) (by rw [ask_false (fun h => hm (congrArg _ h))])
theorem p7 (a0 : List tyK.I) (a1 : List tyT.I) (b0 : List tyK.I) (b1 : List tyT.I) : runV (XC 7 [10] [clLF 17 tyK 18, clLF 19 tyT 20]) (fun _ => none) Tryz.f7 (bodyOf Tryz.f7) [.agg [encL tyK a0, encL tyT a1], .agg [encL tyK b0, encL tyT b1]] =
  (T.br (askQ (clLF (17 : FuncId) tyK (18 : FuncId)).2
  [AV.lst (5 : Nat) (List.map tyK.elem a0) Tl.open_, AV.lst (5 : Nat) (List.map tyK.elem b0) Tl.open_,
    AV.clo (18 : Nat) [] []])
    (T.br (ask (AV.lst (5 : Nat) (List.map tyK.elem a0) Tl.open_ = AV.lst (5 : Nat) (List.map tyK.elem b0) Tl.open_))
      (T.br (askQ (clLF (19 : FuncId) tyT (20 : FuncId)).2
  [AV.lst (3 : Nat) (List.map tyT.elem a1) Tl.open_, AV.lst (3 : Nat) (List.map tyT.elem b1) Tl.open_,
    AV.clo (20 : Nat) [] []])
        (T.leaf (AV.bool (ask (AV.lst 3 (List.map tyT.elem a1) Tl.open_ = AV.lst 3 (List.map tyT.elem b1) Tl.open_))))
        T.fail)
      (T.leaf (AV.bool false)))
    T.fail) := by kernel_rfl
theorem same7 (a0 : List tyK.I) (a1 : List tyT.I) (b0 : List tyK.I) (b1 : List tyT.I) : ask (((a0, a1) : (List tyK.I × List tyT.I)) = (b0, b1)) = (ask (a0 = b0) && ask (a1 = b1)) := by
  rw [ask_pair]
theorem calls7 {X : SX} (hx : X.call = callsBy [clLF 17 tyK 18, clLF 19 tyT 20]) (hE : X.E = E0) : CallOK X.E X.calls := callsBy_ok hx fun c hc => by
  rw [hE]
  rcases List.mem_cons.1 hc with rfl | hc
  · exact clLF_con con17
  obtain rfl := List.mem_singleton.1 hc
  exact clLF_con con19
theorem con7r (a0 : List tyK.I) (a1 : List tyT.I) (b0 : List tyK.I) (b1 : List tyT.I) (l0 : a0.length < 1000000000000000) (o0 : ∀ x, x ∈ a0 → tyK.okay x) (l1 : a1.length < 1000000000000000) (o1 : ∀ x, x ∈ a1 → tyT.okay x) (h : H) :
    Con E0 7 [tyB.elem (a0, a1), tyB.elem (b0, b1)] h (.bool (ask (((a0, a1) : (List tyK.I × List tyT.I)) = (b0, b1)))) h := by
  have ht := congrArg T.run (p7 a0 a1 b0 b1)
  have q0 : askQ (clLF 17 tyK 18).2 [AV.lst 5 (List.map tyK.elem a0) Tl.open_, AV.lst 5 (List.map tyK.elem b0) Tl.open_, AV.clo 18 [] []] = true := ask_true ⟨a0, b0, rfl, l0, o0⟩
  have e0 : ask (AV.lst 5 (List.map tyK.elem a0) Tl.open_ = AV.lst 5 (List.map tyK.elem b0) Tl.open_) = ask (a0 = b0) := ask_LL tyK a0 b0
  have q1 : askQ (clLF 19 tyT 20).2 [AV.lst 3 (List.map tyT.elem a1) Tl.open_, AV.lst 3 (List.map tyT.elem b1) Tl.open_, AV.clo 20 [] []] = true := ask_true ⟨a1, b1, rfl, l1, o1⟩
  have e1 : ask (AV.lst 3 (List.map tyT.elem a1) Tl.open_ = AV.lst 3 (List.map tyT.elem b1) Tl.open_) = ask (a1 = b1) := ask_LL tyT a1 b1
  rw [q0, q1, e0, e1] at ht
  have hr : (runV (XC 7 [10] [clLF 17 tyK 18, clLF 19 tyT 20]) (fun _ => none) Tryz.f7 (bodyOf Tryz.f7) [tyB.elem (a0, a1), tyB.elem (b0, b1)]).run = .ok (.bool (ask (((a0, a1) : (List tyK.I × List tyT.I)) = (b0, b1)))) := by
    refine ht.trans ?_
    rw [same7]
    generalize ask (a0 = b0) = c0
    generalize ask (a1 = b1) = c1
    cases c0 <;> cases c1 <;> rfl
  exact Con.pureV (X := XC 7 [10] [clLF 17 tyK 18, clLF 19 tyT 20]) g0 noG0 (calls7 rfl rfl) (fn := Tryz.f7) Tryz.func7 (c := bodyOf Tryz.f7) rfl rfl (args := [tyB.elem (a0, a1), tyB.elem (b0, b1)]) KOK.none (noRefs2 tyB _ _) hr (Le.refl _) rfl h
theorem con7 (x y : tyB.I) (hx : tyB.okay x) (h : H) : Con E0 7 [tyB.elem x, tyB.elem y] h (.bool (ask (x = y))) h := by
  obtain ⟨a0, a1⟩ := x
  obtain ⟨b0, b1⟩ := y
  exact con7r a0 a1 b0 b1 (Nat.lt_of_le_of_lt hx.1.1 (by decide)) hx.1.2 (Nat.lt_of_le_of_lt hx.2.1 (by decide)) hx.2.2 h
def st5o (j : Nat) (n : Int) : List (Nat × AV) := [(1, .ptr 0 0), (3, .int .i64 n), (4, .int .i64 j)]
def st5i (i : Int) (j : Nat) (n : Int) : List (Nat × AV) := [(1, .ptr 0 0), (3, .int .i64 n), (4, .int .i64 i), (5, .ptr 1 0), (6, .int .i64 j)]
def st5p (j : Nat) (n : Int) : List (Nat × AV) := [(1, .ptr 0 0), (3, .int .i64 n), (7, .int .i64 j)]
def st5q (i : Int) (j : Nat) (n : Int) : List (Nat × AV) := [(1, .ptr 0 0), (3, .int .i64 n), (7, .int .i64 i), (8, .ptr 1 0), (9, .int .i64 j)]
theorem p5i (a0 : List tyK.I) (a1 : List tyT.I) (c0 c1 : ByteArray) (c2 : List tyC.I) (c3 : List tyF.I) (c4 : List tyM.I) (n i k : Int) : obsK (XN 5 [14,19,24,36,42,47,52,73,78,90,95,100,113]) (fun _ => none) 114 (sub (bodyOf Tryz.f5) [1,1,1,0,1,0,0,1,0,0,1,1,1,0,0]) [1,1,1,0,1,0,0,1,0,0,1,1,1,0,0] (frm [(1, .ptr 0 0), (3, .int .i64 n), (4, .int .i64 i), (5, .ptr 1 0), (6, .int .i64 k)]) [.var [encL tyK a0, encL tyT a1], .var [.str c0, .str c1, encL tyC c2, encL tyF c3, encL tyM c4]] [1,2,3,4,5,6] =
  (T.br (decide (k < (↑(List.map tyM.elem c4).length : Int)))
    (T.br (decide ((0 : Int) ≤ k) && decide (k < (↑(List.map tyM.elem c4).length : Int)) &&
  fitsC Tryz.prog (41 : Nat) ((List.map tyM.elem c4).getD k.toNat undef))
      (T.br (decide ((0 : Int) ≤ k) && decide (k < (↑(List.map tyM.elem c4).length : Int)) &&
  fitsC Tryz.prog (41 : Nat) ((List.map tyM.elem c4).getD k.toNat undef))
        (T.br (decide
  ((4000 : Int) <
    IntKind.i64.wrap
      (IntKind.i64.wrap
          (n + (↑(((List.map tyM.elem c4).getD k.toNat undef).cells.getD (3 : Nat) undef).toL.length : Int)) +
        (↑(((List.map tyM.elem c4).getD k.toNat undef).cells.getD (4 : Nat) undef).toL.length : Int))))
          (T.leaf ((X.ret,
  [AV.ptr 0 0, AV.bool false,
    AV.int IntKind.i64
      (IntKind.i64.wrap
        (IntKind.i64.wrap (n + (↑(((List.map tyM.elem c4).getD k.toNat undef).cells.getD 3 undef).toL.length : Int)) +
          (↑(((List.map tyM.elem c4).getD k.toNat undef).cells.getD 4 undef).toL.length : Int))),
    AV.int IntKind.i64 i, AV.ptr 1 0, AV.int IntKind.i64 k],
  [Blk.var [AV.lst 5 (List.map tyK.elem a0) Tl.open_, AV.lst 3 (List.map tyT.elem a1) Tl.open_],
    Blk.var
      [AV.str c0, AV.str c1, AV.lst 5 (List.map tyC.elem c2) Tl.open_, AV.lst 2 (List.map tyF.elem c3) Tl.open_,
        AV.lst 5 (List.map tyM.elem c4) Tl.open_]])))
          (T.leaf ((X.normal,
  [AV.ptr 0 0, AV.fsl 0 [],
    AV.int IntKind.i64
      (IntKind.i64.wrap
        (IntKind.i64.wrap (n + (↑(((List.map tyM.elem c4).getD k.toNat undef).cells.getD 3 undef).toL.length : Int)) +
          (↑(((List.map tyM.elem c4).getD k.toNat undef).cells.getD 4 undef).toL.length : Int))),
    AV.int IntKind.i64 i, AV.ptr 1 0, AV.int IntKind.i64 (IntKind.i64.wrap (k + 1))],
  [Blk.var [AV.lst 5 (List.map tyK.elem a0) Tl.open_, AV.lst 3 (List.map tyT.elem a1) Tl.open_],
    Blk.var
      [AV.str c0, AV.str c1, AV.lst 5 (List.map tyC.elem c2) Tl.open_, AV.lst 2 (List.map tyF.elem c3) Tl.open_,
        AV.lst 5 (List.map tyM.elem c4) Tl.open_]]))))
        T.fail)
      T.fail)
    (T.leaf ((X.exit 2,
  [AV.ptr 0 0, AV.fsl 0 [], AV.int IntKind.i64 n, AV.int IntKind.i64 i, AV.ptr 1 0, AV.int IntKind.i64 k],
  [Blk.var [AV.lst 5 (List.map tyK.elem a0) Tl.open_, AV.lst 3 (List.map tyT.elem a1) Tl.open_],
    Blk.var
      [AV.str c0, AV.str c1, AV.lst 5 (List.map tyC.elem c2) Tl.open_, AV.lst 2 (List.map tyF.elem c3) Tl.open_,
        AV.lst 5 (List.map tyM.elem c4) Tl.open_]])))) := by kernel_rfl
theorem p5q (a0 : List tyK.I) (a1 : List tyT.I) (t0 : ByteArray) (t1 : List tyC.I) (t2 : List tyV.I) (n i k : Int) : obsK (XN 5 [14,19,24,36,42,47,52,73,78,90,95,100,113]) (fun _ => none) 114 (sub (bodyOf Tryz.f5) [1,1,1,1,0,1,0,0,1,0,0,1,1,1,0,0]) [1,1,1,1,0,1,0,0,1,0,0,1,1,1,0,0] (frm [(1, .ptr 0 0), (3, .int .i64 n), (7, .int .i64 i), (8, .ptr 1 0), (9, .int .i64 k)]) [.var [encL tyK a0, encL tyT a1], .var [.str t0, encL tyC t1, encL tyV t2]] [1,2,3,7,8,9] =
  (T.br (decide (k < (↑(List.map tyV.elem t2).length : Int)))
    (T.br (decide ((0 : Int) ≤ k) && decide (k < (↑(List.map tyV.elem t2).length : Int)) &&
  fitsC Tryz.prog (46 : Nat) ((List.map tyV.elem t2).getD k.toNat undef))
      (T.br (decide
  ((4000 : Int) <
    IntKind.i64.wrap
      (n + (↑(((List.map tyV.elem t2).getD k.toNat undef).cells.getD (3 : Nat) undef).toL.length : Int))))
        (T.leaf ((X.ret,
  [AV.ptr 0 0, AV.bool false,
    AV.int IntKind.i64
      (IntKind.i64.wrap (n + (↑(((List.map tyV.elem t2).getD k.toNat undef).cells.getD 3 undef).toL.length : Int))),
    AV.int IntKind.i64 i, AV.ptr 1 0, AV.int IntKind.i64 k],
  [Blk.var [AV.lst 5 (List.map tyK.elem a0) Tl.open_, AV.lst 3 (List.map tyT.elem a1) Tl.open_],
    Blk.var [AV.str t0, AV.lst 5 (List.map tyC.elem t1) Tl.open_, AV.lst 4 (List.map tyV.elem t2) Tl.open_]])))
        (T.leaf ((X.normal,
  [AV.ptr 0 0, AV.fsl 0 [],
    AV.int IntKind.i64
      (IntKind.i64.wrap (n + (↑(((List.map tyV.elem t2).getD k.toNat undef).cells.getD 3 undef).toL.length : Int))),
    AV.int IntKind.i64 i, AV.ptr 1 0, AV.int IntKind.i64 (IntKind.i64.wrap (k + 1))],
  [Blk.var [AV.lst 5 (List.map tyK.elem a0) Tl.open_, AV.lst 3 (List.map tyT.elem a1) Tl.open_],
    Blk.var [AV.str t0, AV.lst 5 (List.map tyC.elem t1) Tl.open_, AV.lst 4 (List.map tyV.elem t2) Tl.open_]]))))
      T.fail)
    (T.leaf ((X.exit 6,
  [AV.ptr 0 0, AV.fsl 0 [], AV.int IntKind.i64 n, AV.int IntKind.i64 i, AV.ptr 1 0, AV.int IntKind.i64 k],
  [Blk.var [AV.lst 5 (List.map tyK.elem a0) Tl.open_, AV.lst 3 (List.map tyT.elem a1) Tl.open_],
    Blk.var [AV.str t0, AV.lst 5 (List.map tyC.elem t1) Tl.open_, AV.lst 4 (List.map tyV.elem t2) Tl.open_]])))) := by kernel_rfl
theorem p5on (a0 : List tyK.I) (a1 : List tyT.I) (c0 c1 : ByteArray) (c2 : List tyC.I) (c3 : List tyF.I) (c4 : List tyM.I) (n i m : Int) : obsK (XN 5 [14,19,24,36,42,47,52,73,78,90,95,100,113]) (kAt [1,1,1,0,1,0,0,1,0,0,1,1,1] (st5i i 0 n) [.var [encL tyK a0, encL tyT a1], .var [.str c0, .str c1, encL tyC c2, encL tyF c3, encL tyM c4]] .normal [(1, .ptr 0 0), (3, .int .i64 m), (4, .int .i64 i)] [.var [encL tyK a0, encL tyT a1], .var [.str c0, .str c1, encL tyC c2, encL tyF c3, encL tyM c4]]) 114 (sub (bodyOf Tryz.f5) [1,1,1,0,1,0,0]) [1,1,1,0,1,0,0] (frm [(1, .ptr 0 0), (3, .int .i64 n), (4, .int .i64 i)]) [.var [encL tyK a0, encL tyT a1]] [1,2,3,4] =
  (T.br (decide (i < (↑(List.map tyK.elem a0).length : Int)))
    (T.br (decide ((0 : Int) ≤ i) && decide (i < (↑(List.map tyK.elem a0).length : Int)) &&
  fitsC Tryz.prog (37 : Nat) ((List.map tyK.elem a0).getD i.toNat undef))
      (T.br (decide
  ((300 : Int) < (↑(((List.map tyK.elem a0).getD i.toNat undef).cells.getD (2 : Nat) undef).toL.length : Int)))
        (T.br true
          (T.br true
            (T.leaf ((X.ret, [AV.ptr 0 0, AV.bool false, AV.int IntKind.i64 n, AV.int IntKind.i64 i],
  [Blk.var [AV.lst 5 (List.map tyK.elem a0) Tl.open_, AV.lst 3 (List.map tyT.elem a1) Tl.open_],
    Blk.var
      [AV.str (((List.map tyK.elem a0).getD i.toNat undef).cells.getD 0 undef).toS,
        AV.str (((List.map tyK.elem a0).getD i.toNat undef).cells.getD 1 undef).toS,
        AV.lst 5 (((List.map tyK.elem a0).getD i.toNat undef).cells.getD 2 undef).toL Tl.open_,
        AV.lst 2 (((List.map tyK.elem a0).getD i.toNat undef).cells.getD 3 undef).toL Tl.open_,
        AV.lst 5 (((List.map tyK.elem a0).getD i.toNat undef).cells.getD 4 undef).toL Tl.open_]])))
            (T.br (askS
  [AV.ptr (0 : Nat) (0 : Nat), AV.int IntKind.i64 n, AV.int IntKind.i64 i, AV.ptr (1 : Nat) (0 : Nat),
    AV.int IntKind.i64 (0 : Int)]
  [AV.ptr (0 : Nat) (0 : Nat), AV.int IntKind.i64 n, AV.int IntKind.i64 i, AV.ptr (1 : Nat) (0 : Nat),
    AV.int IntKind.i64 (↑(0 : Nat) : Int)]
  [Blk.var [AV.lst (5 : Nat) (List.map tyK.elem a0) Tl.open_, AV.lst (3 : Nat) (List.map tyT.elem a1) Tl.open_],
    Blk.var
      [AV.str (((List.map tyK.elem a0).getD i.toNat undef).cells.getD (0 : Nat) undef).toS,
        AV.str (((List.map tyK.elem a0).getD i.toNat undef).cells.getD (1 : Nat) undef).toS,
        AV.lst (5 : Nat) (((List.map tyK.elem a0).getD i.toNat undef).cells.getD (2 : Nat) undef).toL Tl.open_,
        AV.lst (2 : Nat) (((List.map tyK.elem a0).getD i.toNat undef).cells.getD (3 : Nat) undef).toL Tl.open_,
        AV.lst (5 : Nat) (((List.map tyK.elem a0).getD i.toNat undef).cells.getD (4 : Nat) undef).toL Tl.open_]]
  [Blk.var [AV.lst (5 : Nat) (List.map tyK.elem a0) Tl.open_, AV.lst (3 : Nat) (List.map tyT.elem a1) Tl.open_],
    Blk.var
      [AV.str c0, AV.str c1, AV.lst (5 : Nat) (List.map tyC.elem c2) Tl.open_,
        AV.lst (2 : Nat) (List.map tyF.elem c3) Tl.open_, AV.lst (5 : Nat) (List.map tyM.elem c4) Tl.open_]])
              (T.leaf ((X.normal,
  [AV.ptr 0 0, AV.fsl 0 [], AV.int IntKind.i64 m, AV.int IntKind.i64 (IntKind.i64.wrap (i + 1))],
  [Blk.var [AV.lst 5 (List.map tyK.elem a0) Tl.open_, AV.lst 3 (List.map tyT.elem a1) Tl.open_],
    Blk.var
      [AV.str c0, AV.str c1, AV.lst 5 (List.map tyC.elem c2) Tl.open_, AV.lst 2 (List.map tyF.elem c3) Tl.open_,
        AV.lst 5 (List.map tyM.elem c4) Tl.open_]])))
              T.fail))
          (T.br (decide
  ((40 : Int) < (↑(((List.map tyK.elem a0).getD i.toNat undef).cells.getD (4 : Nat) undef).toL.length : Int)))
            (T.leaf ((X.ret, [AV.ptr 0 0, AV.bool false, AV.int IntKind.i64 n, AV.int IntKind.i64 i],
  [Blk.var [AV.lst 5 (List.map tyK.elem a0) Tl.open_, AV.lst 3 (List.map tyT.elem a1) Tl.open_],
    Blk.var
      [AV.str (((List.map tyK.elem a0).getD i.toNat undef).cells.getD 0 undef).toS,
        AV.str (((List.map tyK.elem a0).getD i.toNat undef).cells.getD 1 undef).toS,
        AV.lst 5 (((List.map tyK.elem a0).getD i.toNat undef).cells.getD 2 undef).toL Tl.open_,
        AV.lst 2 (((List.map tyK.elem a0).getD i.toNat undef).cells.getD 3 undef).toL Tl.open_,
        AV.lst 5 (((List.map tyK.elem a0).getD i.toNat undef).cells.getD 4 undef).toL Tl.open_]])))
            (T.br (askS
  [AV.ptr (0 : Nat) (0 : Nat), AV.int IntKind.i64 n, AV.int IntKind.i64 i, AV.ptr (1 : Nat) (0 : Nat),
    AV.int IntKind.i64 (0 : Int)]
  [AV.ptr (0 : Nat) (0 : Nat), AV.int IntKind.i64 n, AV.int IntKind.i64 i, AV.ptr (1 : Nat) (0 : Nat),
    AV.int IntKind.i64 (↑(0 : Nat) : Int)]
  [Blk.var [AV.lst (5 : Nat) (List.map tyK.elem a0) Tl.open_, AV.lst (3 : Nat) (List.map tyT.elem a1) Tl.open_],
    Blk.var
      [AV.str (((List.map tyK.elem a0).getD i.toNat undef).cells.getD (0 : Nat) undef).toS,
        AV.str (((List.map tyK.elem a0).getD i.toNat undef).cells.getD (1 : Nat) undef).toS,
        AV.lst (5 : Nat) (((List.map tyK.elem a0).getD i.toNat undef).cells.getD (2 : Nat) undef).toL Tl.open_,
        AV.lst (2 : Nat) (((List.map tyK.elem a0).getD i.toNat undef).cells.getD (3 : Nat) undef).toL Tl.open_,
        AV.lst (5 : Nat) (((List.map tyK.elem a0).getD i.toNat undef).cells.getD (4 : Nat) undef).toL Tl.open_]]
  [Blk.var [AV.lst (5 : Nat) (List.map tyK.elem a0) Tl.open_, AV.lst (3 : Nat) (List.map tyT.elem a1) Tl.open_],
    Blk.var
      [AV.str c0, AV.str c1, AV.lst (5 : Nat) (List.map tyC.elem c2) Tl.open_,
        AV.lst (2 : Nat) (List.map tyF.elem c3) Tl.open_, AV.lst (5 : Nat) (List.map tyM.elem c4) Tl.open_]])
              (T.leaf ((X.normal,
  [AV.ptr 0 0, AV.fsl 0 [], AV.int IntKind.i64 m, AV.int IntKind.i64 (IntKind.i64.wrap (i + 1))],
  [Blk.var [AV.lst 5 (List.map tyK.elem a0) Tl.open_, AV.lst 3 (List.map tyT.elem a1) Tl.open_],
    Blk.var
      [AV.str c0, AV.str c1, AV.lst 5 (List.map tyC.elem c2) Tl.open_, AV.lst 2 (List.map tyF.elem c3) Tl.open_,
        AV.lst 5 (List.map tyM.elem c4) Tl.open_]])))
              T.fail)))
        (T.br (decide
  ((40 : Int) < (↑(((List.map tyK.elem a0).getD i.toNat undef).cells.getD (3 : Nat) undef).toL.length : Int)))
          (T.br true
            (T.leaf ((X.ret, [AV.ptr 0 0, AV.bool false, AV.int IntKind.i64 n, AV.int IntKind.i64 i],
  [Blk.var [AV.lst 5 (List.map tyK.elem a0) Tl.open_, AV.lst 3 (List.map tyT.elem a1) Tl.open_],
    Blk.var
      [AV.str (((List.map tyK.elem a0).getD i.toNat undef).cells.getD 0 undef).toS,
        AV.str (((List.map tyK.elem a0).getD i.toNat undef).cells.getD 1 undef).toS,
        AV.lst 5 (((List.map tyK.elem a0).getD i.toNat undef).cells.getD 2 undef).toL Tl.open_,
        AV.lst 2 (((List.map tyK.elem a0).getD i.toNat undef).cells.getD 3 undef).toL Tl.open_,
        AV.lst 5 (((List.map tyK.elem a0).getD i.toNat undef).cells.getD 4 undef).toL Tl.open_]])))
            (T.br (askS
  [AV.ptr (0 : Nat) (0 : Nat), AV.int IntKind.i64 n, AV.int IntKind.i64 i, AV.ptr (1 : Nat) (0 : Nat),
    AV.int IntKind.i64 (0 : Int)]
  [AV.ptr (0 : Nat) (0 : Nat), AV.int IntKind.i64 n, AV.int IntKind.i64 i, AV.ptr (1 : Nat) (0 : Nat),
    AV.int IntKind.i64 (↑(0 : Nat) : Int)]
  [Blk.var [AV.lst (5 : Nat) (List.map tyK.elem a0) Tl.open_, AV.lst (3 : Nat) (List.map tyT.elem a1) Tl.open_],
    Blk.var
      [AV.str (((List.map tyK.elem a0).getD i.toNat undef).cells.getD (0 : Nat) undef).toS,
        AV.str (((List.map tyK.elem a0).getD i.toNat undef).cells.getD (1 : Nat) undef).toS,
        AV.lst (5 : Nat) (((List.map tyK.elem a0).getD i.toNat undef).cells.getD (2 : Nat) undef).toL Tl.open_,
        AV.lst (2 : Nat) (((List.map tyK.elem a0).getD i.toNat undef).cells.getD (3 : Nat) undef).toL Tl.open_,
        AV.lst (5 : Nat) (((List.map tyK.elem a0).getD i.toNat undef).cells.getD (4 : Nat) undef).toL Tl.open_]]
  [Blk.var [AV.lst (5 : Nat) (List.map tyK.elem a0) Tl.open_, AV.lst (3 : Nat) (List.map tyT.elem a1) Tl.open_],
    Blk.var
      [AV.str c0, AV.str c1, AV.lst (5 : Nat) (List.map tyC.elem c2) Tl.open_,
        AV.lst (2 : Nat) (List.map tyF.elem c3) Tl.open_, AV.lst (5 : Nat) (List.map tyM.elem c4) Tl.open_]])
              (T.leaf ((X.normal,
  [AV.ptr 0 0, AV.fsl 0 [], AV.int IntKind.i64 m, AV.int IntKind.i64 (IntKind.i64.wrap (i + 1))],
  [Blk.var [AV.lst 5 (List.map tyK.elem a0) Tl.open_, AV.lst 3 (List.map tyT.elem a1) Tl.open_],
    Blk.var
      [AV.str c0, AV.str c1, AV.lst 5 (List.map tyC.elem c2) Tl.open_, AV.lst 2 (List.map tyF.elem c3) Tl.open_,
        AV.lst 5 (List.map tyM.elem c4) Tl.open_]])))
              T.fail))
          (T.br (decide
  ((40 : Int) < (↑(((List.map tyK.elem a0).getD i.toNat undef).cells.getD (4 : Nat) undef).toL.length : Int)))
            (T.leaf ((X.ret, [AV.ptr 0 0, AV.bool false, AV.int IntKind.i64 n, AV.int IntKind.i64 i],
  [Blk.var [AV.lst 5 (List.map tyK.elem a0) Tl.open_, AV.lst 3 (List.map tyT.elem a1) Tl.open_],
    Blk.var
      [AV.str (((List.map tyK.elem a0).getD i.toNat undef).cells.getD 0 undef).toS,
        AV.str (((List.map tyK.elem a0).getD i.toNat undef).cells.getD 1 undef).toS,
        AV.lst 5 (((List.map tyK.elem a0).getD i.toNat undef).cells.getD 2 undef).toL Tl.open_,
        AV.lst 2 (((List.map tyK.elem a0).getD i.toNat undef).cells.getD 3 undef).toL Tl.open_,
        AV.lst 5 (((List.map tyK.elem a0).getD i.toNat undef).cells.getD 4 undef).toL Tl.open_]])))
            (T.br (askS
  [AV.ptr (0 : Nat) (0 : Nat), AV.int IntKind.i64 n, AV.int IntKind.i64 i, AV.ptr (1 : Nat) (0 : Nat),
    AV.int IntKind.i64 (0 : Int)]
  [AV.ptr (0 : Nat) (0 : Nat), AV.int IntKind.i64 n, AV.int IntKind.i64 i, AV.ptr (1 : Nat) (0 : Nat),
    AV.int IntKind.i64 (↑(0 : Nat) : Int)]
  [Blk.var [AV.lst (5 : Nat) (List.map tyK.elem a0) Tl.open_, AV.lst (3 : Nat) (List.map tyT.elem a1) Tl.open_],
    Blk.var
      [AV.str (((List.map tyK.elem a0).getD i.toNat undef).cells.getD (0 : Nat) undef).toS,
        AV.str (((List.map tyK.elem a0).getD i.toNat undef).cells.getD (1 : Nat) undef).toS,
        AV.lst (5 : Nat) (((List.map tyK.elem a0).getD i.toNat undef).cells.getD (2 : Nat) undef).toL Tl.open_,
        AV.lst (2 : Nat) (((List.map tyK.elem a0).getD i.toNat undef).cells.getD (3 : Nat) undef).toL Tl.open_,
        AV.lst (5 : Nat) (((List.map tyK.elem a0).getD i.toNat undef).cells.getD (4 : Nat) undef).toL Tl.open_]]
  [Blk.var [AV.lst (5 : Nat) (List.map tyK.elem a0) Tl.open_, AV.lst (3 : Nat) (List.map tyT.elem a1) Tl.open_],
    Blk.var
      [AV.str c0, AV.str c1, AV.lst (5 : Nat) (List.map tyC.elem c2) Tl.open_,
        AV.lst (2 : Nat) (List.map tyF.elem c3) Tl.open_, AV.lst (5 : Nat) (List.map tyM.elem c4) Tl.open_]])
              (T.leaf ((X.normal,
  [AV.ptr 0 0, AV.fsl 0 [], AV.int IntKind.i64 m, AV.int IntKind.i64 (IntKind.i64.wrap (i + 1))],
  [Blk.var [AV.lst 5 (List.map tyK.elem a0) Tl.open_, AV.lst 3 (List.map tyT.elem a1) Tl.open_],
    Blk.var
      [AV.str c0, AV.str c1, AV.lst 5 (List.map tyC.elem c2) Tl.open_, AV.lst 2 (List.map tyF.elem c3) Tl.open_,
        AV.lst 5 (List.map tyM.elem c4) Tl.open_]])))
              T.fail))))
      T.fail)
    (T.leaf ((X.exit 0, [AV.ptr 0 0, AV.fsl 0 [], AV.int IntKind.i64 n, AV.int IntKind.i64 i],
  [Blk.var [AV.lst 5 (List.map tyK.elem a0) Tl.open_, AV.lst 3 (List.map tyT.elem a1) Tl.open_]])))) := by kernel_rfl
theorem p5or (a0 : List tyK.I) (a1 : List tyT.I) (c0 c1 : ByteArray) (c2 : List tyC.I) (c3 : List tyF.I) (c4 : List tyM.I) (n i : Int) : obsK (XN 5 [14,19,24,36,42,47,52,73,78,90,95,100,113]) (kAt [1,1,1,0,1,0,0,1,0,0,1,1,1] (st5i i 0 n) [.var [encL tyK a0, encL tyT a1], .var [.str c0, .str c1, encL tyC c2, encL tyF c3, encL tyM c4]] .ret [(2, .bool false)] [.var [encL tyK a0, encL tyT a1], .var [.str c0, .str c1, encL tyC c2, encL tyF c3, encL tyM c4]]) 114 (sub (bodyOf Tryz.f5) [1,1,1,0,1,0,0]) [1,1,1,0,1,0,0] (frm [(1, .ptr 0 0), (3, .int .i64 n), (4, .int .i64 i)]) [.var [encL tyK a0, encL tyT a1]] [1,2,3,4] =
  (T.br (decide (i < (↑(List.map tyK.elem a0).length : Int)))
    (T.br (decide ((0 : Int) ≤ i) && decide (i < (↑(List.map tyK.elem a0).length : Int)) &&
  fitsC Tryz.prog (37 : Nat) ((List.map tyK.elem a0).getD i.toNat undef))
      (T.br (decide
  ((300 : Int) < (↑(((List.map tyK.elem a0).getD i.toNat undef).cells.getD (2 : Nat) undef).toL.length : Int)))
        (T.br true
          (T.br true
            (T.leaf ((X.ret, [AV.ptr 0 0, AV.bool false, AV.int IntKind.i64 n, AV.int IntKind.i64 i],
  [Blk.var [AV.lst 5 (List.map tyK.elem a0) Tl.open_, AV.lst 3 (List.map tyT.elem a1) Tl.open_],
    Blk.var
      [AV.str (((List.map tyK.elem a0).getD i.toNat undef).cells.getD 0 undef).toS,
        AV.str (((List.map tyK.elem a0).getD i.toNat undef).cells.getD 1 undef).toS,
        AV.lst 5 (((List.map tyK.elem a0).getD i.toNat undef).cells.getD 2 undef).toL Tl.open_,
        AV.lst 2 (((List.map tyK.elem a0).getD i.toNat undef).cells.getD 3 undef).toL Tl.open_,
        AV.lst 5 (((List.map tyK.elem a0).getD i.toNat undef).cells.getD 4 undef).toL Tl.open_]])))
            (T.br (askS
  [AV.ptr (0 : Nat) (0 : Nat), AV.int IntKind.i64 n, AV.int IntKind.i64 i, AV.ptr (1 : Nat) (0 : Nat),
    AV.int IntKind.i64 (0 : Int)]
  [AV.ptr (0 : Nat) (0 : Nat), AV.int IntKind.i64 n, AV.int IntKind.i64 i, AV.ptr (1 : Nat) (0 : Nat),
    AV.int IntKind.i64 (↑(0 : Nat) : Int)]
  [Blk.var [AV.lst (5 : Nat) (List.map tyK.elem a0) Tl.open_, AV.lst (3 : Nat) (List.map tyT.elem a1) Tl.open_],
    Blk.var
      [AV.str (((List.map tyK.elem a0).getD i.toNat undef).cells.getD (0 : Nat) undef).toS,
        AV.str (((List.map tyK.elem a0).getD i.toNat undef).cells.getD (1 : Nat) undef).toS,
        AV.lst (5 : Nat) (((List.map tyK.elem a0).getD i.toNat undef).cells.getD (2 : Nat) undef).toL Tl.open_,
        AV.lst (2 : Nat) (((List.map tyK.elem a0).getD i.toNat undef).cells.getD (3 : Nat) undef).toL Tl.open_,
        AV.lst (5 : Nat) (((List.map tyK.elem a0).getD i.toNat undef).cells.getD (4 : Nat) undef).toL Tl.open_]]
  [Blk.var [AV.lst (5 : Nat) (List.map tyK.elem a0) Tl.open_, AV.lst (3 : Nat) (List.map tyT.elem a1) Tl.open_],
    Blk.var
      [AV.str c0, AV.str c1, AV.lst (5 : Nat) (List.map tyC.elem c2) Tl.open_,
        AV.lst (2 : Nat) (List.map tyF.elem c3) Tl.open_, AV.lst (5 : Nat) (List.map tyM.elem c4) Tl.open_]])
              (T.leaf ((X.ret, [AV.fsl 0 [], AV.bool false, AV.fsl 0 [], AV.fsl 0 []],
  [Blk.var [AV.lst 5 (List.map tyK.elem a0) Tl.open_, AV.lst 3 (List.map tyT.elem a1) Tl.open_],
    Blk.var
      [AV.str c0, AV.str c1, AV.lst 5 (List.map tyC.elem c2) Tl.open_, AV.lst 2 (List.map tyF.elem c3) Tl.open_,
        AV.lst 5 (List.map tyM.elem c4) Tl.open_]])))
              T.fail))
          (T.br (decide
  ((40 : Int) < (↑(((List.map tyK.elem a0).getD i.toNat undef).cells.getD (4 : Nat) undef).toL.length : Int)))
            (T.leaf ((X.ret, [AV.ptr 0 0, AV.bool false, AV.int IntKind.i64 n, AV.int IntKind.i64 i],
  [Blk.var [AV.lst 5 (List.map tyK.elem a0) Tl.open_, AV.lst 3 (List.map tyT.elem a1) Tl.open_],
    Blk.var
      [AV.str (((List.map tyK.elem a0).getD i.toNat undef).cells.getD 0 undef).toS,
        AV.str (((List.map tyK.elem a0).getD i.toNat undef).cells.getD 1 undef).toS,
        AV.lst 5 (((List.map tyK.elem a0).getD i.toNat undef).cells.getD 2 undef).toL Tl.open_,
        AV.lst 2 (((List.map tyK.elem a0).getD i.toNat undef).cells.getD 3 undef).toL Tl.open_,
        AV.lst 5 (((List.map tyK.elem a0).getD i.toNat undef).cells.getD 4 undef).toL Tl.open_]])))
            (T.br (askS
  [AV.ptr (0 : Nat) (0 : Nat), AV.int IntKind.i64 n, AV.int IntKind.i64 i, AV.ptr (1 : Nat) (0 : Nat),
    AV.int IntKind.i64 (0 : Int)]
  [AV.ptr (0 : Nat) (0 : Nat), AV.int IntKind.i64 n, AV.int IntKind.i64 i, AV.ptr (1 : Nat) (0 : Nat),
    AV.int IntKind.i64 (↑(0 : Nat) : Int)]
  [Blk.var [AV.lst (5 : Nat) (List.map tyK.elem a0) Tl.open_, AV.lst (3 : Nat) (List.map tyT.elem a1) Tl.open_],
    Blk.var
      [AV.str (((List.map tyK.elem a0).getD i.toNat undef).cells.getD (0 : Nat) undef).toS,
        AV.str (((List.map tyK.elem a0).getD i.toNat undef).cells.getD (1 : Nat) undef).toS,
        AV.lst (5 : Nat) (((List.map tyK.elem a0).getD i.toNat undef).cells.getD (2 : Nat) undef).toL Tl.open_,
        AV.lst (2 : Nat) (((List.map tyK.elem a0).getD i.toNat undef).cells.getD (3 : Nat) undef).toL Tl.open_,
        AV.lst (5 : Nat) (((List.map tyK.elem a0).getD i.toNat undef).cells.getD (4 : Nat) undef).toL Tl.open_]]
  [Blk.var [AV.lst (5 : Nat) (List.map tyK.elem a0) Tl.open_, AV.lst (3 : Nat) (List.map tyT.elem a1) Tl.open_],
    Blk.var
      [AV.str c0, AV.str c1, AV.lst (5 : Nat) (List.map tyC.elem c2) Tl.open_,
        AV.lst (2 : Nat) (List.map tyF.elem c3) Tl.open_, AV.lst (5 : Nat) (List.map tyM.elem c4) Tl.open_]])
              (T.leaf ((X.ret, [AV.fsl 0 [], AV.bool false, AV.fsl 0 [], AV.fsl 0 []],
  [Blk.var [AV.lst 5 (List.map tyK.elem a0) Tl.open_, AV.lst 3 (List.map tyT.elem a1) Tl.open_],
    Blk.var
      [AV.str c0, AV.str c1, AV.lst 5 (List.map tyC.elem c2) Tl.open_, AV.lst 2 (List.map tyF.elem c3) Tl.open_,
        AV.lst 5 (List.map tyM.elem c4) Tl.open_]])))
              T.fail)))
        (T.br (decide
  ((40 : Int) < (↑(((List.map tyK.elem a0).getD i.toNat undef).cells.getD (3 : Nat) undef).toL.length : Int)))
          (T.br true
            (T.leaf ((X.ret, [AV.ptr 0 0, AV.bool false, AV.int IntKind.i64 n, AV.int IntKind.i64 i],
  [Blk.var [AV.lst 5 (List.map tyK.elem a0) Tl.open_, AV.lst 3 (List.map tyT.elem a1) Tl.open_],
    Blk.var
      [AV.str (((List.map tyK.elem a0).getD i.toNat undef).cells.getD 0 undef).toS,
        AV.str (((List.map tyK.elem a0).getD i.toNat undef).cells.getD 1 undef).toS,
        AV.lst 5 (((List.map tyK.elem a0).getD i.toNat undef).cells.getD 2 undef).toL Tl.open_,
        AV.lst 2 (((List.map tyK.elem a0).getD i.toNat undef).cells.getD 3 undef).toL Tl.open_,
        AV.lst 5 (((List.map tyK.elem a0).getD i.toNat undef).cells.getD 4 undef).toL Tl.open_]])))
            (T.br (askS
  [AV.ptr (0 : Nat) (0 : Nat), AV.int IntKind.i64 n, AV.int IntKind.i64 i, AV.ptr (1 : Nat) (0 : Nat),
    AV.int IntKind.i64 (0 : Int)]
  [AV.ptr (0 : Nat) (0 : Nat), AV.int IntKind.i64 n, AV.int IntKind.i64 i, AV.ptr (1 : Nat) (0 : Nat),
    AV.int IntKind.i64 (↑(0 : Nat) : Int)]
  [Blk.var [AV.lst (5 : Nat) (List.map tyK.elem a0) Tl.open_, AV.lst (3 : Nat) (List.map tyT.elem a1) Tl.open_],
    Blk.var
      [AV.str (((List.map tyK.elem a0).getD i.toNat undef).cells.getD (0 : Nat) undef).toS,
        AV.str (((List.map tyK.elem a0).getD i.toNat undef).cells.getD (1 : Nat) undef).toS,
        AV.lst (5 : Nat) (((List.map tyK.elem a0).getD i.toNat undef).cells.getD (2 : Nat) undef).toL Tl.open_,
        AV.lst (2 : Nat) (((List.map tyK.elem a0).getD i.toNat undef).cells.getD (3 : Nat) undef).toL Tl.open_,
        AV.lst (5 : Nat) (((List.map tyK.elem a0).getD i.toNat undef).cells.getD (4 : Nat) undef).toL Tl.open_]]
  [Blk.var [AV.lst (5 : Nat) (List.map tyK.elem a0) Tl.open_, AV.lst (3 : Nat) (List.map tyT.elem a1) Tl.open_],
    Blk.var
      [AV.str c0, AV.str c1, AV.lst (5 : Nat) (List.map tyC.elem c2) Tl.open_,
        AV.lst (2 : Nat) (List.map tyF.elem c3) Tl.open_, AV.lst (5 : Nat) (List.map tyM.elem c4) Tl.open_]])
              (T.leaf ((X.ret, [AV.fsl 0 [], AV.bool false, AV.fsl 0 [], AV.fsl 0 []],
  [Blk.var [AV.lst 5 (List.map tyK.elem a0) Tl.open_, AV.lst 3 (List.map tyT.elem a1) Tl.open_],
    Blk.var
      [AV.str c0, AV.str c1, AV.lst 5 (List.map tyC.elem c2) Tl.open_, AV.lst 2 (List.map tyF.elem c3) Tl.open_,
        AV.lst 5 (List.map tyM.elem c4) Tl.open_]])))
              T.fail))
          (T.br (decide
  ((40 : Int) < (↑(((List.map tyK.elem a0).getD i.toNat undef).cells.getD (4 : Nat) undef).toL.length : Int)))
            (T.leaf ((X.ret, [AV.ptr 0 0, AV.bool false, AV.int IntKind.i64 n, AV.int IntKind.i64 i],
  [Blk.var [AV.lst 5 (List.map tyK.elem a0) Tl.open_, AV.lst 3 (List.map tyT.elem a1) Tl.open_],
    Blk.var
      [AV.str (((List.map tyK.elem a0).getD i.toNat undef).cells.getD 0 undef).toS,
        AV.str (((List.map tyK.elem a0).getD i.toNat undef).cells.getD 1 undef).toS,
        AV.lst 5 (((List.map tyK.elem a0).getD i.toNat undef).cells.getD 2 undef).toL Tl.open_,
        AV.lst 2 (((List.map tyK.elem a0).getD i.toNat undef).cells.getD 3 undef).toL Tl.open_,
        AV.lst 5 (((List.map tyK.elem a0).getD i.toNat undef).cells.getD 4 undef).toL Tl.open_]])))
            (T.br (askS
  [AV.ptr (0 : Nat) (0 : Nat), AV.int IntKind.i64 n, AV.int IntKind.i64 i, AV.ptr (1 : Nat) (0 : Nat),
    AV.int IntKind.i64 (0 : Int)]
  [AV.ptr (0 : Nat) (0 : Nat), AV.int IntKind.i64 n, AV.int IntKind.i64 i, AV.ptr (1 : Nat) (0 : Nat),
    AV.int IntKind.i64 (↑(0 : Nat) : Int)]
  [Blk.var [AV.lst (5 : Nat) (List.map tyK.elem a0) Tl.open_, AV.lst (3 : Nat) (List.map tyT.elem a1) Tl.open_],
    Blk.var
      [AV.str (((List.map tyK.elem a0).getD i.toNat undef).cells.getD (0 : Nat) undef).toS,
        AV.str (((List.map tyK.elem a0).getD i.toNat undef).cells.getD (1 : Nat) undef).toS,
        AV.lst (5 : Nat) (((List.map tyK.elem a0).getD i.toNat undef).cells.getD (2 : Nat) undef).toL Tl.open_,
        AV.lst (2 : Nat) (((List.map tyK.elem a0).getD i.toNat undef).cells.getD (3 : Nat) undef).toL Tl.open_,
        AV.lst (5 : Nat) (((List.map tyK.elem a0).getD i.toNat undef).cells.getD (4 : Nat) undef).toL Tl.open_]]
  [Blk.var [AV.lst (5 : Nat) (List.map tyK.elem a0) Tl.open_, AV.lst (3 : Nat) (List.map tyT.elem a1) Tl.open_],
    Blk.var
      [AV.str c0, AV.str c1, AV.lst (5 : Nat) (List.map tyC.elem c2) Tl.open_,
        AV.lst (2 : Nat) (List.map tyF.elem c3) Tl.open_, AV.lst (5 : Nat) (List.map tyM.elem c4) Tl.open_]])
              (T.leaf ((X.ret, [AV.fsl 0 [], AV.bool false, AV.fsl 0 [], AV.fsl 0 []],
  [Blk.var [AV.lst 5 (List.map tyK.elem a0) Tl.open_, AV.lst 3 (List.map tyT.elem a1) Tl.open_],
    Blk.var
      [AV.str c0, AV.str c1, AV.lst 5 (List.map tyC.elem c2) Tl.open_, AV.lst 2 (List.map tyF.elem c3) Tl.open_,
        AV.lst 5 (List.map tyM.elem c4) Tl.open_]])))
              T.fail))))
      T.fail)
    (T.leaf ((X.exit 0, [AV.ptr 0 0, AV.fsl 0 [], AV.int IntKind.i64 n, AV.int IntKind.i64 i],
  [Blk.var [AV.lst 5 (List.map tyK.elem a0) Tl.open_, AV.lst 3 (List.map tyT.elem a1) Tl.open_]])))) := by kernel_rfl
theorem p5pn (a0 : List tyK.I) (a1 : List tyT.I) (t0 : ByteArray) (t1 : List tyC.I) (t2 : List tyV.I) (n i m : Int) : obsK (XN 5 [14,19,24,36,42,47,52,73,78,90,95,100,113]) (kAt [1,1,1,1,0,1,0,0,1,0,0,1,1,1] (st5q i 0 n) [.var [encL tyK a0, encL tyT a1], .var [.str t0, encL tyC t1, encL tyV t2]] .normal [(1, .ptr 0 0), (3, .int .i64 m), (7, .int .i64 i)] [.var [encL tyK a0, encL tyT a1], .var [.str t0, encL tyC t1, encL tyV t2]]) 114 (sub (bodyOf Tryz.f5) [1,1,1,1,0,1,0,0]) [1,1,1,1,0,1,0,0] (frm [(1, .ptr 0 0), (3, .int .i64 n), (7, .int .i64 i)]) [.var [encL tyK a0, encL tyT a1]] [1,2,3,7] =
  (T.br (decide (i < (↑(List.map tyT.elem a1).length : Int)))
    (T.br (decide ((0 : Int) ≤ i) && decide (i < (↑(List.map tyT.elem a1).length : Int)) &&
  fitsC Tryz.prog (44 : Nat) ((List.map tyT.elem a1).getD i.toNat undef))
      (T.br (decide
  ((300 : Int) < (↑(((List.map tyT.elem a1).getD i.toNat undef).cells.getD (1 : Nat) undef).toL.length : Int)))
        (T.br true
          (T.leaf ((X.ret, [AV.ptr 0 0, AV.bool false, AV.int IntKind.i64 n, AV.int IntKind.i64 i],
  [Blk.var [AV.lst 5 (List.map tyK.elem a0) Tl.open_, AV.lst 3 (List.map tyT.elem a1) Tl.open_],
    Blk.var
      [AV.str (((List.map tyT.elem a1).getD i.toNat undef).cells.getD 0 undef).toS,
        AV.lst 5 (((List.map tyT.elem a1).getD i.toNat undef).cells.getD 1 undef).toL Tl.open_,
        AV.lst 4 (((List.map tyT.elem a1).getD i.toNat undef).cells.getD 2 undef).toL Tl.open_]])))
          (T.br (askS
  [AV.ptr (0 : Nat) (0 : Nat), AV.int IntKind.i64 n, AV.int IntKind.i64 i, AV.ptr (1 : Nat) (0 : Nat),
    AV.int IntKind.i64 (0 : Int)]
  [AV.ptr (0 : Nat) (0 : Nat), AV.int IntKind.i64 n, AV.int IntKind.i64 i, AV.ptr (1 : Nat) (0 : Nat),
    AV.int IntKind.i64 (↑(0 : Nat) : Int)]
  [Blk.var [AV.lst (5 : Nat) (List.map tyK.elem a0) Tl.open_, AV.lst (3 : Nat) (List.map tyT.elem a1) Tl.open_],
    Blk.var
      [AV.str (((List.map tyT.elem a1).getD i.toNat undef).cells.getD (0 : Nat) undef).toS,
        AV.lst (5 : Nat) (((List.map tyT.elem a1).getD i.toNat undef).cells.getD (1 : Nat) undef).toL Tl.open_,
        AV.lst (4 : Nat) (((List.map tyT.elem a1).getD i.toNat undef).cells.getD (2 : Nat) undef).toL Tl.open_]]
  [Blk.var [AV.lst (5 : Nat) (List.map tyK.elem a0) Tl.open_, AV.lst (3 : Nat) (List.map tyT.elem a1) Tl.open_],
    Blk.var
      [AV.str t0, AV.lst (5 : Nat) (List.map tyC.elem t1) Tl.open_, AV.lst (4 : Nat) (List.map tyV.elem t2) Tl.open_]])
            (T.leaf ((X.normal,
  [AV.ptr 0 0, AV.fsl 0 [], AV.int IntKind.i64 m, AV.int IntKind.i64 (IntKind.i64.wrap (i + 1))],
  [Blk.var [AV.lst 5 (List.map tyK.elem a0) Tl.open_, AV.lst 3 (List.map tyT.elem a1) Tl.open_],
    Blk.var [AV.str t0, AV.lst 5 (List.map tyC.elem t1) Tl.open_, AV.lst 4 (List.map tyV.elem t2) Tl.open_]])))
            T.fail))
        (T.br (decide
  ((40 : Int) < (↑(((List.map tyT.elem a1).getD i.toNat undef).cells.getD (2 : Nat) undef).toL.length : Int)))
          (T.leaf ((X.ret, [AV.ptr 0 0, AV.bool false, AV.int IntKind.i64 n, AV.int IntKind.i64 i],
  [Blk.var [AV.lst 5 (List.map tyK.elem a0) Tl.open_, AV.lst 3 (List.map tyT.elem a1) Tl.open_],
    Blk.var
      [AV.str (((List.map tyT.elem a1).getD i.toNat undef).cells.getD 0 undef).toS,
        AV.lst 5 (((List.map tyT.elem a1).getD i.toNat undef).cells.getD 1 undef).toL Tl.open_,
        AV.lst 4 (((List.map tyT.elem a1).getD i.toNat undef).cells.getD 2 undef).toL Tl.open_]])))
          (T.br (askS
  [AV.ptr (0 : Nat) (0 : Nat), AV.int IntKind.i64 n, AV.int IntKind.i64 i, AV.ptr (1 : Nat) (0 : Nat),
    AV.int IntKind.i64 (0 : Int)]
  [AV.ptr (0 : Nat) (0 : Nat), AV.int IntKind.i64 n, AV.int IntKind.i64 i, AV.ptr (1 : Nat) (0 : Nat),
    AV.int IntKind.i64 (↑(0 : Nat) : Int)]
  [Blk.var [AV.lst (5 : Nat) (List.map tyK.elem a0) Tl.open_, AV.lst (3 : Nat) (List.map tyT.elem a1) Tl.open_],
    Blk.var
      [AV.str (((List.map tyT.elem a1).getD i.toNat undef).cells.getD (0 : Nat) undef).toS,
        AV.lst (5 : Nat) (((List.map tyT.elem a1).getD i.toNat undef).cells.getD (1 : Nat) undef).toL Tl.open_,
        AV.lst (4 : Nat) (((List.map tyT.elem a1).getD i.toNat undef).cells.getD (2 : Nat) undef).toL Tl.open_]]
  [Blk.var [AV.lst (5 : Nat) (List.map tyK.elem a0) Tl.open_, AV.lst (3 : Nat) (List.map tyT.elem a1) Tl.open_],
    Blk.var
      [AV.str t0, AV.lst (5 : Nat) (List.map tyC.elem t1) Tl.open_, AV.lst (4 : Nat) (List.map tyV.elem t2) Tl.open_]])
            (T.leaf ((X.normal,
  [AV.ptr 0 0, AV.fsl 0 [], AV.int IntKind.i64 m, AV.int IntKind.i64 (IntKind.i64.wrap (i + 1))],
  [Blk.var [AV.lst 5 (List.map tyK.elem a0) Tl.open_, AV.lst 3 (List.map tyT.elem a1) Tl.open_],
    Blk.var [AV.str t0, AV.lst 5 (List.map tyC.elem t1) Tl.open_, AV.lst 4 (List.map tyV.elem t2) Tl.open_]])))
            T.fail)))
      T.fail)
    (T.leaf ((X.exit 4, [AV.ptr 0 0, AV.fsl 0 [], AV.int IntKind.i64 n, AV.int IntKind.i64 i],
  [Blk.var [AV.lst 5 (List.map tyK.elem a0) Tl.open_, AV.lst 3 (List.map tyT.elem a1) Tl.open_]])))) := by kernel_rfl
theorem p5pr (a0 : List tyK.I) (a1 : List tyT.I) (t0 : ByteArray) (t1 : List tyC.I) (t2 : List tyV.I) (n i : Int) : obsK (XN 5 [14,19,24,36,42,47,52,73,78,90,95,100,113]) (kAt [1,1,1,1,0,1,0,0,1,0,0,1,1,1] (st5q i 0 n) [.var [encL tyK a0, encL tyT a1], .var [.str t0, encL tyC t1, encL tyV t2]] .ret [(2, .bool false)] [.var [encL tyK a0, encL tyT a1], .var [.str t0, encL tyC t1, encL tyV t2]]) 114 (sub (bodyOf Tryz.f5) [1,1,1,1,0,1,0,0]) [1,1,1,1,0,1,0,0] (frm [(1, .ptr 0 0), (3, .int .i64 n), (7, .int .i64 i)]) [.var [encL tyK a0, encL tyT a1]] [1,2,3,7] =
  (T.br (decide (i < (↑(List.map tyT.elem a1).length : Int)))
    (T.br (decide ((0 : Int) ≤ i) && decide (i < (↑(List.map tyT.elem a1).length : Int)) &&
  fitsC Tryz.prog (44 : Nat) ((List.map tyT.elem a1).getD i.toNat undef))
      (T.br (decide
  ((300 : Int) < (↑(((List.map tyT.elem a1).getD i.toNat undef).cells.getD (1 : Nat) undef).toL.length : Int)))
        (T.br true
          (T.leaf ((X.ret, [AV.ptr 0 0, AV.bool false, AV.int IntKind.i64 n, AV.int IntKind.i64 i],
  [Blk.var [AV.lst 5 (List.map tyK.elem a0) Tl.open_, AV.lst 3 (List.map tyT.elem a1) Tl.open_],
    Blk.var
      [AV.str (((List.map tyT.elem a1).getD i.toNat undef).cells.getD 0 undef).toS,
        AV.lst 5 (((List.map tyT.elem a1).getD i.toNat undef).cells.getD 1 undef).toL Tl.open_,
        AV.lst 4 (((List.map tyT.elem a1).getD i.toNat undef).cells.getD 2 undef).toL Tl.open_]])))
          (T.br (askS
  [AV.ptr (0 : Nat) (0 : Nat), AV.int IntKind.i64 n, AV.int IntKind.i64 i, AV.ptr (1 : Nat) (0 : Nat),
    AV.int IntKind.i64 (0 : Int)]
  [AV.ptr (0 : Nat) (0 : Nat), AV.int IntKind.i64 n, AV.int IntKind.i64 i, AV.ptr (1 : Nat) (0 : Nat),
    AV.int IntKind.i64 (↑(0 : Nat) : Int)]
  [Blk.var [AV.lst (5 : Nat) (List.map tyK.elem a0) Tl.open_, AV.lst (3 : Nat) (List.map tyT.elem a1) Tl.open_],
    Blk.var
      [AV.str (((List.map tyT.elem a1).getD i.toNat undef).cells.getD (0 : Nat) undef).toS,
        AV.lst (5 : Nat) (((List.map tyT.elem a1).getD i.toNat undef).cells.getD (1 : Nat) undef).toL Tl.open_,
        AV.lst (4 : Nat) (((List.map tyT.elem a1).getD i.toNat undef).cells.getD (2 : Nat) undef).toL Tl.open_]]
  [Blk.var [AV.lst (5 : Nat) (List.map tyK.elem a0) Tl.open_, AV.lst (3 : Nat) (List.map tyT.elem a1) Tl.open_],
    Blk.var
      [AV.str t0, AV.lst (5 : Nat) (List.map tyC.elem t1) Tl.open_, AV.lst (4 : Nat) (List.map tyV.elem t2) Tl.open_]])
            (T.leaf ((X.ret, [AV.fsl 0 [], AV.bool false, AV.fsl 0 [], AV.fsl 0 []],
  [Blk.var [AV.lst 5 (List.map tyK.elem a0) Tl.open_, AV.lst 3 (List.map tyT.elem a1) Tl.open_],
    Blk.var [AV.str t0, AV.lst 5 (List.map tyC.elem t1) Tl.open_, AV.lst 4 (List.map tyV.elem t2) Tl.open_]])))
            T.fail))
        (T.br (decide
  ((40 : Int) < (↑(((List.map tyT.elem a1).getD i.toNat undef).cells.getD (2 : Nat) undef).toL.length : Int)))
          (T.leaf ((X.ret, [AV.ptr 0 0, AV.bool false, AV.int IntKind.i64 n, AV.int IntKind.i64 i],
  [Blk.var [AV.lst 5 (List.map tyK.elem a0) Tl.open_, AV.lst 3 (List.map tyT.elem a1) Tl.open_],
    Blk.var
      [AV.str (((List.map tyT.elem a1).getD i.toNat undef).cells.getD 0 undef).toS,
        AV.lst 5 (((List.map tyT.elem a1).getD i.toNat undef).cells.getD 1 undef).toL Tl.open_,
        AV.lst 4 (((List.map tyT.elem a1).getD i.toNat undef).cells.getD 2 undef).toL Tl.open_]])))
          (T.br (askS
  [AV.ptr (0 : Nat) (0 : Nat), AV.int IntKind.i64 n, AV.int IntKind.i64 i, AV.ptr (1 : Nat) (0 : Nat),
    AV.int IntKind.i64 (0 : Int)]
  [AV.ptr (0 : Nat) (0 : Nat), AV.int IntKind.i64 n, AV.int IntKind.i64 i, AV.ptr (1 : Nat) (0 : Nat),
    AV.int IntKind.i64 (↑(0 : Nat) : Int)]
  [Blk.var [AV.lst (5 : Nat) (List.map tyK.elem a0) Tl.open_, AV.lst (3 : Nat) (List.map tyT.elem a1) Tl.open_],
    Blk.var
      [AV.str (((List.map tyT.elem a1).getD i.toNat undef).cells.getD (0 : Nat) undef).toS,
        AV.lst (5 : Nat) (((List.map tyT.elem a1).getD i.toNat undef).cells.getD (1 : Nat) undef).toL Tl.open_,
        AV.lst (4 : Nat) (((List.map tyT.elem a1).getD i.toNat undef).cells.getD (2 : Nat) undef).toL Tl.open_]]
  [Blk.var [AV.lst (5 : Nat) (List.map tyK.elem a0) Tl.open_, AV.lst (3 : Nat) (List.map tyT.elem a1) Tl.open_],
    Blk.var
      [AV.str t0, AV.lst (5 : Nat) (List.map tyC.elem t1) Tl.open_, AV.lst (4 : Nat) (List.map tyV.elem t2) Tl.open_]])
            (T.leaf ((X.ret, [AV.fsl 0 [], AV.bool false, AV.fsl 0 [], AV.fsl 0 []],
  [Blk.var [AV.lst 5 (List.map tyK.elem a0) Tl.open_, AV.lst 3 (List.map tyT.elem a1) Tl.open_],
    Blk.var [AV.str t0, AV.lst 5 (List.map tyC.elem t1) Tl.open_, AV.lst 4 (List.map tyV.elem t2) Tl.open_]])))
            T.fail)))
      T.fail)
    (T.leaf ((X.exit 4, [AV.ptr 0 0, AV.fsl 0 [], AV.int IntKind.i64 n, AV.int IntKind.i64 i],
  [Blk.var [AV.lst 5 (List.map tyK.elem a0) Tl.open_, AV.lst 3 (List.map tyT.elem a1) Tl.open_]])))) := by kernel_rfl
theorem p5ox (a0 : List tyK.I) (a1 : List tyT.I) (n i : Int) : obsK (XN 5 [14,19,24,36,42,47,52,73,78,90,95,100,113]) (kNo [1,1,1,0,1,0,0,1,0,0,1,1,1]) 114 (sub (bodyOf Tryz.f5) [1,1,1,0,1,0,0]) [1,1,1,0,1,0,0] (frm [(1, .ptr 0 0), (3, .int .i64 n), (4, .int .i64 i)]) [.var [encL tyK a0, encL tyT a1]] [1,2,3,4] =
  (T.br (decide (i < (↑(List.map tyK.elem a0).length : Int)))
    (T.br (decide ((0 : Int) ≤ i) && decide (i < (↑(List.map tyK.elem a0).length : Int)) &&
  fitsC Tryz.prog (37 : Nat) ((List.map tyK.elem a0).getD i.toNat undef))
      (T.br (decide
  ((300 : Int) < (↑(((List.map tyK.elem a0).getD i.toNat undef).cells.getD (2 : Nat) undef).toL.length : Int)))
        (T.br true
          (T.br true
            (T.leaf ((X.ret, [AV.ptr 0 0, AV.bool false, AV.int IntKind.i64 n, AV.int IntKind.i64 i],
  [Blk.var [AV.lst 5 (List.map tyK.elem a0) Tl.open_, AV.lst 3 (List.map tyT.elem a1) Tl.open_],
    Blk.var
      [AV.str (((List.map tyK.elem a0).getD i.toNat undef).cells.getD 0 undef).toS,
        AV.str (((List.map tyK.elem a0).getD i.toNat undef).cells.getD 1 undef).toS,
        AV.lst 5 (((List.map tyK.elem a0).getD i.toNat undef).cells.getD 2 undef).toL Tl.open_,
        AV.lst 2 (((List.map tyK.elem a0).getD i.toNat undef).cells.getD 3 undef).toL Tl.open_,
        AV.lst 5 (((List.map tyK.elem a0).getD i.toNat undef).cells.getD 4 undef).toL Tl.open_]])))
            T.fail)
          (T.br (decide
  ((40 : Int) < (↑(((List.map tyK.elem a0).getD i.toNat undef).cells.getD (4 : Nat) undef).toL.length : Int)))
            (T.leaf ((X.ret, [AV.ptr 0 0, AV.bool false, AV.int IntKind.i64 n, AV.int IntKind.i64 i],
  [Blk.var [AV.lst 5 (List.map tyK.elem a0) Tl.open_, AV.lst 3 (List.map tyT.elem a1) Tl.open_],
    Blk.var
      [AV.str (((List.map tyK.elem a0).getD i.toNat undef).cells.getD 0 undef).toS,
        AV.str (((List.map tyK.elem a0).getD i.toNat undef).cells.getD 1 undef).toS,
        AV.lst 5 (((List.map tyK.elem a0).getD i.toNat undef).cells.getD 2 undef).toL Tl.open_,
        AV.lst 2 (((List.map tyK.elem a0).getD i.toNat undef).cells.getD 3 undef).toL Tl.open_,
        AV.lst 5 (((List.map tyK.elem a0).getD i.toNat undef).cells.getD 4 undef).toL Tl.open_]])))
            T.fail))
        (T.br (decide
  ((40 : Int) < (↑(((List.map tyK.elem a0).getD i.toNat undef).cells.getD (3 : Nat) undef).toL.length : Int)))
          (T.br true
            (T.leaf ((X.ret, [AV.ptr 0 0, AV.bool false, AV.int IntKind.i64 n, AV.int IntKind.i64 i],
  [Blk.var [AV.lst 5 (List.map tyK.elem a0) Tl.open_, AV.lst 3 (List.map tyT.elem a1) Tl.open_],
    Blk.var
      [AV.str (((List.map tyK.elem a0).getD i.toNat undef).cells.getD 0 undef).toS,
        AV.str (((List.map tyK.elem a0).getD i.toNat undef).cells.getD 1 undef).toS,
        AV.lst 5 (((List.map tyK.elem a0).getD i.toNat undef).cells.getD 2 undef).toL Tl.open_,
        AV.lst 2 (((List.map tyK.elem a0).getD i.toNat undef).cells.getD 3 undef).toL Tl.open_,
        AV.lst 5 (((List.map tyK.elem a0).getD i.toNat undef).cells.getD 4 undef).toL Tl.open_]])))
            T.fail)
          (T.br (decide
  ((40 : Int) < (↑(((List.map tyK.elem a0).getD i.toNat undef).cells.getD (4 : Nat) undef).toL.length : Int)))
            (T.leaf ((X.ret, [AV.ptr 0 0, AV.bool false, AV.int IntKind.i64 n, AV.int IntKind.i64 i],
  [Blk.var [AV.lst 5 (List.map tyK.elem a0) Tl.open_, AV.lst 3 (List.map tyT.elem a1) Tl.open_],
    Blk.var
      [AV.str (((List.map tyK.elem a0).getD i.toNat undef).cells.getD 0 undef).toS,
        AV.str (((List.map tyK.elem a0).getD i.toNat undef).cells.getD 1 undef).toS,
        AV.lst 5 (((List.map tyK.elem a0).getD i.toNat undef).cells.getD 2 undef).toL Tl.open_,
        AV.lst 2 (((List.map tyK.elem a0).getD i.toNat undef).cells.getD 3 undef).toL Tl.open_,
        AV.lst 5 (((List.map tyK.elem a0).getD i.toNat undef).cells.getD 4 undef).toL Tl.open_]])))
            T.fail)))
      T.fail)
    (T.leaf ((X.exit 0, [AV.ptr 0 0, AV.fsl 0 [], AV.int IntKind.i64 n, AV.int IntKind.i64 i],
  [Blk.var [AV.lst 5 (List.map tyK.elem a0) Tl.open_, AV.lst 3 (List.map tyT.elem a1) Tl.open_]])))) := by kernel_rfl
theorem p5px (a0 : List tyK.I) (a1 : List tyT.I) (n i : Int) : obsK (XN 5 [14,19,24,36,42,47,52,73,78,90,95,100,113]) (kNo [1,1,1,1,0,1,0,0,1,0,0,1,1,1]) 114 (sub (bodyOf Tryz.f5) [1,1,1,1,0,1,0,0]) [1,1,1,1,0,1,0,0] (frm [(1, .ptr 0 0), (3, .int .i64 n), (7, .int .i64 i)]) [.var [encL tyK a0, encL tyT a1]] [1,2,3,7] =
  (T.br (decide (i < (↑(List.map tyT.elem a1).length : Int)))
    (T.br (decide ((0 : Int) ≤ i) && decide (i < (↑(List.map tyT.elem a1).length : Int)) &&
  fitsC Tryz.prog (44 : Nat) ((List.map tyT.elem a1).getD i.toNat undef))
      (T.br (decide
  ((300 : Int) < (↑(((List.map tyT.elem a1).getD i.toNat undef).cells.getD (1 : Nat) undef).toL.length : Int)))
        (T.br true
          (T.leaf ((X.ret, [AV.ptr 0 0, AV.bool false, AV.int IntKind.i64 n, AV.int IntKind.i64 i],
  [Blk.var [AV.lst 5 (List.map tyK.elem a0) Tl.open_, AV.lst 3 (List.map tyT.elem a1) Tl.open_],
    Blk.var
      [AV.str (((List.map tyT.elem a1).getD i.toNat undef).cells.getD 0 undef).toS,
        AV.lst 5 (((List.map tyT.elem a1).getD i.toNat undef).cells.getD 1 undef).toL Tl.open_,
        AV.lst 4 (((List.map tyT.elem a1).getD i.toNat undef).cells.getD 2 undef).toL Tl.open_]])))
          T.fail)
        (T.br (decide
  ((40 : Int) < (↑(((List.map tyT.elem a1).getD i.toNat undef).cells.getD (2 : Nat) undef).toL.length : Int)))
          (T.leaf ((X.ret, [AV.ptr 0 0, AV.bool false, AV.int IntKind.i64 n, AV.int IntKind.i64 i],
  [Blk.var [AV.lst 5 (List.map tyK.elem a0) Tl.open_, AV.lst 3 (List.map tyT.elem a1) Tl.open_],
    Blk.var
      [AV.str (((List.map tyT.elem a1).getD i.toNat undef).cells.getD 0 undef).toS,
        AV.lst 5 (((List.map tyT.elem a1).getD i.toNat undef).cells.getD 1 undef).toL Tl.open_,
        AV.lst 4 (((List.map tyT.elem a1).getD i.toNat undef).cells.getD 2 undef).toL Tl.open_]])))
          T.fail))
      T.fail)
    (T.leaf ((X.exit 4, [AV.ptr 0 0, AV.fsl 0 [], AV.int IntKind.i64 n, AV.int IntKind.i64 i],
  [Blk.var [AV.lst 5 (List.map tyK.elem a0) Tl.open_, AV.lst 3 (List.map tyT.elem a1) Tl.open_]])))) := by kernel_rfl
theorem p5nn (a0 : List tyK.I) (a1 : List tyT.I) (n m : Int) : runV (XN 5 [14,19,24,36,42,47,52,73,78,90,95,100,113]) (kTwo (kAt [1,1,1,0,1] (st5o 0 0) [.var [encL tyK a0, encL tyT a1]] .normal [(1, .ptr 0 0), (3, .int .i64 n)] [.var [encL tyK a0, encL tyT a1]]) (kAt [1,1,1,1,0,1] (st5p 0 n) [.var [encL tyK a0, encL tyT a1]] .normal [(1, .ptr 0 0), (3, .int .i64 m)] [.var [encL tyK a0, encL tyT a1]])) Tryz.f5 (bodyOf Tryz.f5) [.agg [encL tyK a0, encL tyT a1]] =
  (T.br (decide ((40 : Int) < (↑(List.map tyK.elem a0).length : Int)))
    (T.br true
      (T.leaf (AV.bool false))
      (T.br (askS [AV.ptr (0 : Nat) (0 : Nat), AV.int IntKind.i64 (0 : Int), AV.int IntKind.i64 (0 : Int)]
  [AV.ptr (0 : Nat) (0 : Nat), AV.int IntKind.i64 (0 : Int), AV.int IntKind.i64 (↑(0 : Nat) : Int)]
  [Blk.var [AV.lst (5 : Nat) (List.map tyK.elem a0) Tl.open_, AV.lst (3 : Nat) (List.map tyT.elem a1) Tl.open_]]
  [Blk.var [AV.lst (5 : Nat) (List.map tyK.elem a0) Tl.open_, AV.lst (3 : Nat) (List.map tyT.elem a1) Tl.open_]])
        (T.br (askS [AV.ptr (0 : Nat) (0 : Nat), AV.int IntKind.i64 n, AV.int IntKind.i64 (0 : Int)]
  [AV.ptr (0 : Nat) (0 : Nat), AV.int IntKind.i64 n, AV.int IntKind.i64 (↑(0 : Nat) : Int)]
  [Blk.var [AV.lst (5 : Nat) (List.map tyK.elem a0) Tl.open_, AV.lst (3 : Nat) (List.map tyT.elem a1) Tl.open_]]
  [Blk.var [AV.lst (5 : Nat) (List.map tyK.elem a0) Tl.open_, AV.lst (3 : Nat) (List.map tyT.elem a1) Tl.open_]])
          (T.leaf (AV.bool true))
          T.fail)
        T.fail))
    (T.br (decide ((40 : Int) < (↑(List.map tyT.elem a1).length : Int)))
      (T.leaf (AV.bool false))
      (T.br (askS [AV.ptr (0 : Nat) (0 : Nat), AV.int IntKind.i64 (0 : Int), AV.int IntKind.i64 (0 : Int)]
  [AV.ptr (0 : Nat) (0 : Nat), AV.int IntKind.i64 (0 : Int), AV.int IntKind.i64 (↑(0 : Nat) : Int)]
  [Blk.var [AV.lst (5 : Nat) (List.map tyK.elem a0) Tl.open_, AV.lst (3 : Nat) (List.map tyT.elem a1) Tl.open_]]
  [Blk.var [AV.lst (5 : Nat) (List.map tyK.elem a0) Tl.open_, AV.lst (3 : Nat) (List.map tyT.elem a1) Tl.open_]])
        (T.br (askS [AV.ptr (0 : Nat) (0 : Nat), AV.int IntKind.i64 n, AV.int IntKind.i64 (0 : Int)]
  [AV.ptr (0 : Nat) (0 : Nat), AV.int IntKind.i64 n, AV.int IntKind.i64 (↑(0 : Nat) : Int)]
  [Blk.var [AV.lst (5 : Nat) (List.map tyK.elem a0) Tl.open_, AV.lst (3 : Nat) (List.map tyT.elem a1) Tl.open_]]
  [Blk.var [AV.lst (5 : Nat) (List.map tyK.elem a0) Tl.open_, AV.lst (3 : Nat) (List.map tyT.elem a1) Tl.open_]])
          (T.leaf (AV.bool true))
          T.fail)
        T.fail))) := by kernel_rfl
theorem p5nr (a0 : List tyK.I) (a1 : List tyT.I) (n : Int) : runV (XN 5 [14,19,24,36,42,47,52,73,78,90,95,100,113]) (kTwo (kAt [1,1,1,0,1] (st5o 0 0) [.var [encL tyK a0, encL tyT a1]] .normal [(1, .ptr 0 0), (3, .int .i64 n)] [.var [encL tyK a0, encL tyT a1]]) (kAt [1,1,1,1,0,1] (st5p 0 n) [.var [encL tyK a0, encL tyT a1]] .ret [(2, .bool false)] [.var [encL tyK a0, encL tyT a1]])) Tryz.f5 (bodyOf Tryz.f5) [.agg [encL tyK a0, encL tyT a1]] =
  (T.br (decide ((40 : Int) < (↑(List.map tyK.elem a0).length : Int)))
    (T.br true
      (T.leaf (AV.bool false))
      (T.br (askS [AV.ptr (0 : Nat) (0 : Nat), AV.int IntKind.i64 (0 : Int), AV.int IntKind.i64 (0 : Int)]
  [AV.ptr (0 : Nat) (0 : Nat), AV.int IntKind.i64 (0 : Int), AV.int IntKind.i64 (↑(0 : Nat) : Int)]
  [Blk.var [AV.lst (5 : Nat) (List.map tyK.elem a0) Tl.open_, AV.lst (3 : Nat) (List.map tyT.elem a1) Tl.open_]]
  [Blk.var [AV.lst (5 : Nat) (List.map tyK.elem a0) Tl.open_, AV.lst (3 : Nat) (List.map tyT.elem a1) Tl.open_]])
        (T.br (askS [AV.ptr (0 : Nat) (0 : Nat), AV.int IntKind.i64 n, AV.int IntKind.i64 (0 : Int)]
  [AV.ptr (0 : Nat) (0 : Nat), AV.int IntKind.i64 n, AV.int IntKind.i64 (↑(0 : Nat) : Int)]
  [Blk.var [AV.lst (5 : Nat) (List.map tyK.elem a0) Tl.open_, AV.lst (3 : Nat) (List.map tyT.elem a1) Tl.open_]]
  [Blk.var [AV.lst (5 : Nat) (List.map tyK.elem a0) Tl.open_, AV.lst (3 : Nat) (List.map tyT.elem a1) Tl.open_]])
          (T.leaf (AV.bool false))
          T.fail)
        T.fail))
    (T.br (decide ((40 : Int) < (↑(List.map tyT.elem a1).length : Int)))
      (T.leaf (AV.bool false))
      (T.br (askS [AV.ptr (0 : Nat) (0 : Nat), AV.int IntKind.i64 (0 : Int), AV.int IntKind.i64 (0 : Int)]
  [AV.ptr (0 : Nat) (0 : Nat), AV.int IntKind.i64 (0 : Int), AV.int IntKind.i64 (↑(0 : Nat) : Int)]
  [Blk.var [AV.lst (5 : Nat) (List.map tyK.elem a0) Tl.open_, AV.lst (3 : Nat) (List.map tyT.elem a1) Tl.open_]]
  [Blk.var [AV.lst (5 : Nat) (List.map tyK.elem a0) Tl.open_, AV.lst (3 : Nat) (List.map tyT.elem a1) Tl.open_]])
        (T.br (askS [AV.ptr (0 : Nat) (0 : Nat), AV.int IntKind.i64 n, AV.int IntKind.i64 (0 : Int)]
  [AV.ptr (0 : Nat) (0 : Nat), AV.int IntKind.i64 n, AV.int IntKind.i64 (↑(0 : Nat) : Int)]
  [Blk.var [AV.lst (5 : Nat) (List.map tyK.elem a0) Tl.open_, AV.lst (3 : Nat) (List.map tyT.elem a1) Tl.open_]]
  [Blk.var [AV.lst (5 : Nat) (List.map tyK.elem a0) Tl.open_, AV.lst (3 : Nat) (List.map tyT.elem a1) Tl.open_]])
          (T.leaf (AV.bool false))
          T.fail)
        T.fail))) := by kernel_rfl
theorem p5r (a0 : List tyK.I) (a1 : List tyT.I) : runV (XN 5 [14,19,24,36,42,47,52,73,78,90,95,100,113]) (kTwo (kAt [1,1,1,0,1] (st5o 0 0) [.var [encL tyK a0, encL tyT a1]] .ret [(2, .bool false)] [.var [encL tyK a0, encL tyT a1]]) (kNo [1,1,1,1,0,1])) Tryz.f5 (bodyOf Tryz.f5) [.agg [encL tyK a0, encL tyT a1]] =
  (T.br (decide ((40 : Int) < (↑(List.map tyK.elem a0).length : Int)))
    (T.br true
      (T.leaf (AV.bool false))
      (T.br (askS [AV.ptr (0 : Nat) (0 : Nat), AV.int IntKind.i64 (0 : Int), AV.int IntKind.i64 (0 : Int)]
  [AV.ptr (0 : Nat) (0 : Nat), AV.int IntKind.i64 (0 : Int), AV.int IntKind.i64 (↑(0 : Nat) : Int)]
  [Blk.var [AV.lst (5 : Nat) (List.map tyK.elem a0) Tl.open_, AV.lst (3 : Nat) (List.map tyT.elem a1) Tl.open_]]
  [Blk.var [AV.lst (5 : Nat) (List.map tyK.elem a0) Tl.open_, AV.lst (3 : Nat) (List.map tyT.elem a1) Tl.open_]])
        (T.leaf (AV.bool false))
        T.fail))
    (T.br (decide ((40 : Int) < (↑(List.map tyT.elem a1).length : Int)))
      (T.leaf (AV.bool false))
      (T.br (askS [AV.ptr (0 : Nat) (0 : Nat), AV.int IntKind.i64 (0 : Int), AV.int IntKind.i64 (0 : Int)]
  [AV.ptr (0 : Nat) (0 : Nat), AV.int IntKind.i64 (0 : Int), AV.int IntKind.i64 (↑(0 : Nat) : Int)]
  [Blk.var [AV.lst (5 : Nat) (List.map tyK.elem a0) Tl.open_, AV.lst (3 : Nat) (List.map tyT.elem a1) Tl.open_]]
  [Blk.var [AV.lst (5 : Nat) (List.map tyK.elem a0) Tl.open_, AV.lst (3 : Nat) (List.map tyT.elem a1) Tl.open_]])
        (T.leaf (AV.bool false))
        T.fail))) := by kernel_rfl
def hm5 (a0 : List tyK.I) (a1 : List tyT.I) : H := [.var [encL tyK a0, encL tyT a1]]
def hi5i (a0 : List tyK.I) (a1 : List tyT.I) (c0 c1 : ByteArray) (c2 : List tyC.I) (c3 : List tyF.I) (c4 : List tyM.I) : H := [.var [encL tyK a0, encL tyT a1], .var [.str c0, .str c1, encL tyC c2, encL tyF c3, encL tyM c4]]
theorem go5i (a0 : List tyK.I) (a1 : List tyT.I) (c0 c1 : ByteArray) (c2 : List tyC.I) (c3 : List tyF.I) (c4 : List tyM.I) (i : Int) (hl : c4.length < 1000000000000000) (k : Nat) (n : Int) (hk : k < c4.length) :
    (∃ n', Tri E0 114 [] (sub (bodyOf Tryz.f5) [1,1,1,0,1,0,0,1,0,0,1,1,1,0,0]) (frm (st5i i k n)) (hi5i a0 a1 c0 c1 c2 c3 c4) .normal (frm (st5i i (k + 1) n')) (hi5i a0 a1 c0 c1 c2 c3 c4)) ∨ Tri E0 114 [] (sub (bodyOf Tryz.f5) [1,1,1,0,1,0,0,1,0,0,1,1,1,0,0]) (frm (st5i i k n)) (hi5i a0 a1 c0 c1 c2 c3 c4) .ret (frm [(2, .bool false)]) (hi5i a0 a1 c0 c1 c2 c3 c4) := by
  have ht := p5i a0 a1 c0 c1 c2 c3 c4 n i k
  have f0 : fitsC Tryz.prog 41 (tyM.elem tyM.zero) = true := by kernel_rfl
  rw [idx_ok hk f0, lt_ok hk, Int.toNat_natCast, getD_elem hk, wrap_next (by omega)] at ht
  generalize hu : decide ((4000 : Int) < IntKind.i64.wrap (IntKind.i64.wrap (n + ((((tyM.elem (c4.getD k tyM.zero)).cells.getD 3 undef).toL.length : Nat) : Int)) + ((((tyM.elem (c4.getD k tyM.zero)).cells.getD 4 undef).toL.length : Nat) : Int))) = u at ht
  cases u with
  | true => exact .inr (Tri.seen (X := XN 5 [14,19,24,36,42,47,52,73,78,90,95,100,113]) g0 (noCalls fun _ _ _ => rfl) KOK.none rfl (congrArg T.run ht) (by
      intro q hq
      simp only [List.mem_cons, List.not_mem_nil, or_false] at hq
      rcases hq with rfl; rfl))
  | false => exact .inl ⟨_, Tri.seen (X := XN 5 [14,19,24,36,42,47,52,73,78,90,95,100,113]) g0 (noCalls fun _ _ _ => rfl) KOK.none rfl (congrArg T.run ht) (by
      intro q hq
      simp only [st5i, List.mem_cons, List.not_mem_nil, or_false] at hq
      rcases hq with rfl | rfl | rfl | rfl | rfl <;> rfl)⟩
theorem out5i (a0 : List tyK.I) (a1 : List tyT.I) (c0 c1 : ByteArray) (c2 : List tyC.I) (c3 : List tyF.I) (c4 : List tyM.I) (i n : Int) : Tri E0 114 [] (sub (bodyOf Tryz.f5) [1,1,1,0,1,0,0,1,0,0,1,1,1,0,0]) (frm (st5i i c4.length n)) (hi5i a0 a1 c0 c1 c2 c3 c4) (.exit 2) (frm [(1, .ptr 0 0), (3, .int .i64 n), (4, .int .i64 i)]) (hi5i a0 a1 c0 c1 c2 c3 c4) := by
  have ht := p5i a0 a1 c0 c1 c2 c3 c4 n i c4.length
  rw [lt_no] at ht
  exact Tri.seen (X := XN 5 [14,19,24,36,42,47,52,73,78,90,95,100,113]) g0 (noCalls fun _ _ _ => rfl) KOK.none rfl (congrArg T.run ht) (by
    intro q hq
    simp only [List.mem_cons, List.not_mem_nil, or_false] at hq
    rcases hq with rfl | rfl | rfl <;> rfl)
theorem seen5o (a0 : List tyK.I) (a1 : List tyT.I) {K : Known} {τ : Fr} {h : H} {x : X} {vs : List AV} {extra : H} (hK : KOK E0 114 [] (bodyOf Tryz.f5) K)
    (hr : (obsK (XN 5 [14,19,24,36,42,47,52,73,78,90,95,100,113]) K 114 (sub (bodyOf Tryz.f5) [1,1,1,0,1,0,0]) [1,1,1,0,1,0,0] τ h [1,2,3,4]).run = .ok (x, vs, (hm5 a0 a1) ++ extra)) {sl : List (Nat × AV)}
    (hs : ∀ q, q ∈ sl → frm ([1,2,3,4].zip vs) q.1 = q.2 ∧ (noRef q.2 = true ∨ q.2 = .ptr 0 0) ∧ isFsl q.2 = false) : Tri E0 114 [] (sub (bodyOf Tryz.f5) [1,1,1,0,1,0,0]) τ h x (frm sl) (hm5 a0 a1) := by
  refine Tri.seenB (X := XN 5 [14,19,24,36,42,47,52,73,78,90,95,100,113]) g0 noG0 (noCalls fun _ _ _ => rfl) hK rfl hr (Nat.zero_le _) (fun b hb => ?_) (fun b hb => ?_) (fun q hq => ?_)
  · simp only [hm5, List.mem_cons, List.not_mem_nil, or_false] at hb
    rcases hb with rfl; nofun
  · simp only [hm5, List.mem_cons, List.not_mem_nil, or_false] at hb
    rcases hb with rfl; exact congrArg Blk.var (rens_noRef _ _ (by simp only [noRefs, encL_noRef, Bool.and_true]))
  · obtain ⟨h1, h2, h3⟩ := hs q hq
    refine ⟨h1, ?_, h3⟩
    rcases h2 with h2 | h2
    · exact ren_noRef _ _ h2
    · rw [h2]; rfl
theorem go5o (a0 : List tyK.I) (a1 : List tyT.I) (c0 c1 : ByteArray) (c2 : List tyC.I) (c3 : List tyF.I) (c4 : List tyM.I) (hl : a0.length < 1000000000000000) (hli : c4.length < 1000000000000000) (j : Nat) (n : Int) (hj : j < a0.length) (hx : a0.getD j tyK.zero = (c0, c1, c2, c3, c4)) :
    (∃ n', Tri E0 114 [] (sub (bodyOf Tryz.f5) [1,1,1,0,1,0,0]) (frm (st5o j n)) (hm5 a0 a1) .normal (frm (st5o (j + 1) n')) (hm5 a0 a1)) ∨ Tri E0 114 [] (sub (bodyOf Tryz.f5) [1,1,1,0,1,0,0]) (frm (st5o j n)) (hm5 a0 a1) .ret (frm [(2, .bool false)]) (hm5 a0 a1) := by
  have f0 : fitsC Tryz.prog 37 (tyK.elem tyK.zero) = true := by kernel_rfl
  have hS : (askS
  [AV.ptr (0 : Nat) (0 : Nat), AV.int IntKind.i64 n, AV.int IntKind.i64 (j : Int), AV.ptr (1 : Nat) (0 : Nat),
    AV.int IntKind.i64 (0 : Int)]
  [AV.ptr (0 : Nat) (0 : Nat), AV.int IntKind.i64 n, AV.int IntKind.i64 (j : Int), AV.ptr (1 : Nat) (0 : Nat),
    AV.int IntKind.i64 (↑(0 : Nat) : Int)]
  [Blk.var [AV.lst (5 : Nat) (List.map tyK.elem a0) Tl.open_, AV.lst (3 : Nat) (List.map tyT.elem a1) Tl.open_],
    Blk.var
      [AV.str ((tyK.elem (a0.getD j tyK.zero)).cells.getD (0 : Nat) undef).toS,
        AV.str ((tyK.elem (a0.getD j tyK.zero)).cells.getD (1 : Nat) undef).toS,
        AV.lst (5 : Nat) ((tyK.elem (a0.getD j tyK.zero)).cells.getD (2 : Nat) undef).toL Tl.open_,
        AV.lst (2 : Nat) ((tyK.elem (a0.getD j tyK.zero)).cells.getD (3 : Nat) undef).toL Tl.open_,
        AV.lst (5 : Nat) ((tyK.elem (a0.getD j tyK.zero)).cells.getD (4 : Nat) undef).toL Tl.open_]]
  [Blk.var [AV.lst (5 : Nat) (List.map tyK.elem a0) Tl.open_, AV.lst (3 : Nat) (List.map tyT.elem a1) Tl.open_],
    Blk.var
      [AV.str c0, AV.str c1, AV.lst (5 : Nat) (List.map tyC.elem c2) Tl.open_,
        AV.lst (2 : Nat) (List.map tyF.elem c3) Tl.open_, AV.lst (5 : Nat) (List.map tyM.elem c4) Tl.open_]]) = true := by rw [hx]; exact askS_self _ _
  have hsl : ∀ (x : AV) (m : Int) (j : Int), ∀ q, q ∈ [(1, AV.ptr 0 0), (3, AV.int .i64 m), (4, AV.int .i64 j)] → frm ([1,2,3,4].zip [AV.ptr 0 0, x, AV.int .i64 m, AV.int .i64 j]) q.1 = q.2 ∧ (noRef q.2 = true ∨ q.2 = .ptr 0 0) ∧ isFsl q.2 = false := by
    intro x m j q hq
    simp only [List.mem_cons, List.not_mem_nil, or_false] at hq
    rcases hq with rfl | rfl | rfl
    · exact ⟨rfl, .inr rfl, rfl⟩
    · exact ⟨rfl, .inl rfl, rfl⟩
    · exact ⟨rfl, .inl rfl, rfl⟩
  have hrt : ∀ (x y z : AV), ∀ q, q ∈ [(2, AV.bool false)] → frm ([1,2,3,4].zip [x, .bool false, y, z]) q.1 = q.2 ∧ (noRef q.2 = true ∨ q.2 = .ptr 0 0) ∧ isFsl q.2 = false := by
    intro x y z q hq
    simp only [List.mem_cons, List.not_mem_nil, or_false] at hq
    rcases hq with rfl
    exact ⟨rfl, .inl rfl, rfl⟩
  rcases rounds_or (E := E0) (N := 114) (h0 := []) (c := sub (bodyOf Tryz.f5) [1,1,1,0,1,0,0,1,0,0,1,1,1,0,0]) (n := c4.length) (fun _ _ => True) (fun k n => st5i j k n) (hi5i a0 a1 c0 c1 c2 c3 c4) [(2, .bool false)] 2 (fun n => [(1, .ptr 0 0), (3, .int .i64 n), (4, .int .i64 j)]) (fun k m hk _ => (go5i a0 a1 c0 c1 c2 c3 c4 j hli k m hk).imp (fun ⟨s', h⟩ => ⟨s', h, trivial⟩) id) (fun m _ => out5i a0 a1 c0 c1 c2 c3 c4 j m) c4.length 0 n (by omega) trivial with ⟨m, hT, _⟩ | hT
  · have hk : KOK E0 114 [] (bodyOf Tryz.f5) (kAt [1,1,1,0,1,0,0,1,0,0,1,1,1] (st5i j 0 n) (hi5i a0 a1 c0 c1 c2 c3 c4) .normal [(1, .ptr 0 0), (3, .int .i64 m), (4, .int .i64 j)] (hi5i a0 a1 c0 c1 c2 c3 c4)) := kAt_ok (Tri.block (id := 2) (Tri.loop hT))
    have ht := p5on a0 a1 c0 c1 c2 c3 c4 n j m
    rw [idx_ok hj f0, lt_ok hj, Int.toNat_natCast, getD_elem hj, wrap_next (by omega), hS] at ht
    generalize decide ((300 : Int) < ((((tyK.elem (a0.getD j tyK.zero)).cells.getD 2 undef).toL.length : Nat) : Int)) = u1 at ht
    generalize decide ((40 : Int) < ((((tyK.elem (a0.getD j tyK.zero)).cells.getD 3 undef).toL.length : Nat) : Int)) = u2 at ht
    generalize decide ((40 : Int) < ((((tyK.elem (a0.getD j tyK.zero)).cells.getD 4 undef).toL.length : Nat) : Int)) = u3 at ht
    cases u1 <;> cases u2 <;> cases u3 <;> first | exact .inl ⟨_, seen5o a0 a1 (extra := [.var _]) hk (congrArg T.run ht) (hsl _ _ _)⟩ | exact .inr (seen5o a0 a1 (extra := [.var _]) hk (congrArg T.run ht) (hrt _ _ _))
  · have hk : KOK E0 114 [] (bodyOf Tryz.f5) (kAt [1,1,1,0,1,0,0,1,0,0,1,1,1] (st5i j 0 n) (hi5i a0 a1 c0 c1 c2 c3 c4) .ret [(2, .bool false)] (hi5i a0 a1 c0 c1 c2 c3 c4)) := kAt_ok (Tri.block (id := 2) (Tri.loop hT))
    have ht := p5or a0 a1 c0 c1 c2 c3 c4 n j
    rw [idx_ok hj f0, lt_ok hj, Int.toNat_natCast, getD_elem hj, hS] at ht
    generalize decide ((300 : Int) < ((((tyK.elem (a0.getD j tyK.zero)).cells.getD 2 undef).toL.length : Nat) : Int)) = u1 at ht
    generalize decide ((40 : Int) < ((((tyK.elem (a0.getD j tyK.zero)).cells.getD 3 undef).toL.length : Nat) : Int)) = u2 at ht
    generalize decide ((40 : Int) < ((((tyK.elem (a0.getD j tyK.zero)).cells.getD 4 undef).toL.length : Nat) : Int)) = u3 at ht
    cases u1 <;> cases u2 <;> cases u3 <;> exact .inr (seen5o a0 a1 (extra := [.var _]) hk (congrArg T.run ht) (hrt _ _ _))
theorem out5o (a0 : List tyK.I) (a1 : List tyT.I) (n : Int) : Tri E0 114 [] (sub (bodyOf Tryz.f5) [1,1,1,0,1,0,0]) (frm (st5o a0.length n)) (hm5 a0 a1) (.exit 0) (frm [(1, .ptr 0 0), (3, .int .i64 n)]) (hm5 a0 a1) := by
  have ht := p5ox a0 a1 n a0.length
  rw [lt_no] at ht
  refine seen5o a0 a1 (extra := []) (kNo_ok (p := [1,1,1,0,1,0,0,1,0,0,1,1,1])) (congrArg T.run ht) (fun q hq => ?_)
  simp only [List.mem_cons, List.not_mem_nil, or_false] at hq
  rcases hq with rfl | rfl
  · exact ⟨rfl, .inr rfl, rfl⟩
  · exact ⟨rfl, .inl rfl, rfl⟩
def hi5q (a0 : List tyK.I) (a1 : List tyT.I) (t0 : ByteArray) (t1 : List tyC.I) (t2 : List tyV.I) : H := [.var [encL tyK a0, encL tyT a1], .var [.str t0, encL tyC t1, encL tyV t2]]
theorem go5q (a0 : List tyK.I) (a1 : List tyT.I) (t0 : ByteArray) (t1 : List tyC.I) (t2 : List tyV.I) (i : Int) (hl : t2.length < 1000000000000000) (k : Nat) (n : Int) (hk : k < t2.length) :
    (∃ n', Tri E0 114 [] (sub (bodyOf Tryz.f5) [1,1,1,1,0,1,0,0,1,0,0,1,1,1,0,0]) (frm (st5q i k n)) (hi5q a0 a1 t0 t1 t2) .normal (frm (st5q i (k + 1) n')) (hi5q a0 a1 t0 t1 t2)) ∨ Tri E0 114 [] (sub (bodyOf Tryz.f5) [1,1,1,1,0,1,0,0,1,0,0,1,1,1,0,0]) (frm (st5q i k n)) (hi5q a0 a1 t0 t1 t2) .ret (frm [(2, .bool false)]) (hi5q a0 a1 t0 t1 t2) := by
  have ht := p5q a0 a1 t0 t1 t2 n i k
  have f0 : fitsC Tryz.prog 46 (tyV.elem tyV.zero) = true := by kernel_rfl
  rw [idx_ok hk f0, lt_ok hk, Int.toNat_natCast, getD_elem hk, wrap_next (by omega)] at ht
  generalize hu : decide ((4000 : Int) < IntKind.i64.wrap (n + ((((tyV.elem (t2.getD k tyV.zero)).cells.getD 3 undef).toL.length : Nat) : Int))) = u at ht
  cases u with
  | true => exact .inr (Tri.seen (X := XN 5 [14,19,24,36,42,47,52,73,78,90,95,100,113]) g0 (noCalls fun _ _ _ => rfl) KOK.none rfl (congrArg T.run ht) (by
      intro q hq
      simp only [List.mem_cons, List.not_mem_nil, or_false] at hq
      rcases hq with rfl; rfl))
  | false => exact .inl ⟨_, Tri.seen (X := XN 5 [14,19,24,36,42,47,52,73,78,90,95,100,113]) g0 (noCalls fun _ _ _ => rfl) KOK.none rfl (congrArg T.run ht) (by
      intro q hq
      simp only [st5q, List.mem_cons, List.not_mem_nil, or_false] at hq
      rcases hq with rfl | rfl | rfl | rfl | rfl <;> rfl)⟩
theorem out5q (a0 : List tyK.I) (a1 : List tyT.I) (t0 : ByteArray) (t1 : List tyC.I) (t2 : List tyV.I) (i n : Int) : Tri E0 114 [] (sub (bodyOf Tryz.f5) [1,1,1,1,0,1,0,0,1,0,0,1,1,1,0,0]) (frm (st5q i t2.length n)) (hi5q a0 a1 t0 t1 t2) (.exit 6) (frm [(1, .ptr 0 0), (3, .int .i64 n), (7, .int .i64 i)]) (hi5q a0 a1 t0 t1 t2) := by
  have ht := p5q a0 a1 t0 t1 t2 n i t2.length
  rw [lt_no] at ht
  exact Tri.seen (X := XN 5 [14,19,24,36,42,47,52,73,78,90,95,100,113]) g0 (noCalls fun _ _ _ => rfl) KOK.none rfl (congrArg T.run ht) (by
    intro q hq
    simp only [List.mem_cons, List.not_mem_nil, or_false] at hq
    rcases hq with rfl | rfl | rfl <;> rfl)
theorem seen5p (a0 : List tyK.I) (a1 : List tyT.I) {K : Known} {τ : Fr} {h : H} {x : X} {vs : List AV} {extra : H} (hK : KOK E0 114 [] (bodyOf Tryz.f5) K)
    (hr : (obsK (XN 5 [14,19,24,36,42,47,52,73,78,90,95,100,113]) K 114 (sub (bodyOf Tryz.f5) [1,1,1,1,0,1,0,0]) [1,1,1,1,0,1,0,0] τ h [1,2,3,7]).run = .ok (x, vs, (hm5 a0 a1) ++ extra)) {sl : List (Nat × AV)}
    (hs : ∀ q, q ∈ sl → frm ([1,2,3,7].zip vs) q.1 = q.2 ∧ (noRef q.2 = true ∨ q.2 = .ptr 0 0) ∧ isFsl q.2 = false) : Tri E0 114 [] (sub (bodyOf Tryz.f5) [1,1,1,1,0,1,0,0]) τ h x (frm sl) (hm5 a0 a1) := by
  refine Tri.seenB (X := XN 5 [14,19,24,36,42,47,52,73,78,90,95,100,113]) g0 noG0 (noCalls fun _ _ _ => rfl) hK rfl hr (Nat.zero_le _) (fun b hb => ?_) (fun b hb => ?_) (fun q hq => ?_)
  · simp only [hm5, List.mem_cons, List.not_mem_nil, or_false] at hb
    rcases hb with rfl; nofun
  · simp only [hm5, List.mem_cons, List.not_mem_nil, or_false] at hb
    rcases hb with rfl; exact congrArg Blk.var (rens_noRef _ _ (by simp only [noRefs, encL_noRef, Bool.and_true]))
  · obtain ⟨h1, h2, h3⟩ := hs q hq
    refine ⟨h1, ?_, h3⟩
    rcases h2 with h2 | h2
    · exact ren_noRef _ _ h2
    · rw [h2]; rfl
theorem go5p (a0 : List tyK.I) (a1 : List tyT.I) (t0 : ByteArray) (t1 : List tyC.I) (t2 : List tyV.I) (hl : a1.length < 1000000000000000) (hli : t2.length < 1000000000000000) (j : Nat) (n : Int) (hj : j < a1.length) (hx : a1.getD j tyT.zero = (t0, t1, t2)) :
    (∃ n', Tri E0 114 [] (sub (bodyOf Tryz.f5) [1,1,1,1,0,1,0,0]) (frm (st5p j n)) (hm5 a0 a1) .normal (frm (st5p (j + 1) n')) (hm5 a0 a1)) ∨ Tri E0 114 [] (sub (bodyOf Tryz.f5) [1,1,1,1,0,1,0,0]) (frm (st5p j n)) (hm5 a0 a1) .ret (frm [(2, .bool false)]) (hm5 a0 a1) := by
  have f0 : fitsC Tryz.prog 44 (tyT.elem tyT.zero) = true := by kernel_rfl
  have hS : (askS
  [AV.ptr (0 : Nat) (0 : Nat), AV.int IntKind.i64 n, AV.int IntKind.i64 (j : Int), AV.ptr (1 : Nat) (0 : Nat),
    AV.int IntKind.i64 (0 : Int)]
  [AV.ptr (0 : Nat) (0 : Nat), AV.int IntKind.i64 n, AV.int IntKind.i64 (j : Int), AV.ptr (1 : Nat) (0 : Nat),
    AV.int IntKind.i64 (↑(0 : Nat) : Int)]
  [Blk.var [AV.lst (5 : Nat) (List.map tyK.elem a0) Tl.open_, AV.lst (3 : Nat) (List.map tyT.elem a1) Tl.open_],
    Blk.var
      [AV.str ((tyT.elem (a1.getD j tyT.zero)).cells.getD (0 : Nat) undef).toS,
        AV.lst (5 : Nat) ((tyT.elem (a1.getD j tyT.zero)).cells.getD (1 : Nat) undef).toL Tl.open_,
        AV.lst (4 : Nat) ((tyT.elem (a1.getD j tyT.zero)).cells.getD (2 : Nat) undef).toL Tl.open_]]
  [Blk.var [AV.lst (5 : Nat) (List.map tyK.elem a0) Tl.open_, AV.lst (3 : Nat) (List.map tyT.elem a1) Tl.open_],
    Blk.var
      [AV.str t0, AV.lst (5 : Nat) (List.map tyC.elem t1) Tl.open_, AV.lst (4 : Nat) (List.map tyV.elem t2) Tl.open_]]) = true := by rw [hx]; exact askS_self _ _
  have hsl : ∀ (x : AV) (m : Int) (j : Int), ∀ q, q ∈ [(1, AV.ptr 0 0), (3, AV.int .i64 m), (7, AV.int .i64 j)] → frm ([1,2,3,7].zip [AV.ptr 0 0, x, AV.int .i64 m, AV.int .i64 j]) q.1 = q.2 ∧ (noRef q.2 = true ∨ q.2 = .ptr 0 0) ∧ isFsl q.2 = false := by
    intro x m j q hq
    simp only [List.mem_cons, List.not_mem_nil, or_false] at hq
    rcases hq with rfl | rfl | rfl
    · exact ⟨rfl, .inr rfl, rfl⟩
    · exact ⟨rfl, .inl rfl, rfl⟩
    · exact ⟨rfl, .inl rfl, rfl⟩
  have hrt : ∀ (x y z : AV), ∀ q, q ∈ [(2, AV.bool false)] → frm ([1,2,3,7].zip [x, .bool false, y, z]) q.1 = q.2 ∧ (noRef q.2 = true ∨ q.2 = .ptr 0 0) ∧ isFsl q.2 = false := by
    intro x y z q hq
    simp only [List.mem_cons, List.not_mem_nil, or_false] at hq
    rcases hq with rfl
    exact ⟨rfl, .inl rfl, rfl⟩
  rcases rounds_or (E := E0) (N := 114) (h0 := []) (c := sub (bodyOf Tryz.f5) [1,1,1,1,0,1,0,0,1,0,0,1,1,1,0,0]) (n := t2.length) (fun _ _ => True) (fun k n => st5q j k n) (hi5q a0 a1 t0 t1 t2) [(2, .bool false)] 6 (fun n => [(1, .ptr 0 0), (3, .int .i64 n), (7, .int .i64 j)]) (fun k m hk _ => (go5q a0 a1 t0 t1 t2 j hli k m hk).imp (fun ⟨s', h⟩ => ⟨s', h, trivial⟩) id) (fun m _ => out5q a0 a1 t0 t1 t2 j m) t2.length 0 n (by omega) trivial with ⟨m, hT, _⟩ | hT
  · have hk : KOK E0 114 [] (bodyOf Tryz.f5) (kAt [1,1,1,1,0,1,0,0,1,0,0,1,1,1] (st5q j 0 n) (hi5q a0 a1 t0 t1 t2) .normal [(1, .ptr 0 0), (3, .int .i64 m), (7, .int .i64 j)] (hi5q a0 a1 t0 t1 t2)) := kAt_ok (Tri.block (id := 6) (Tri.loop hT))
    have ht := p5pn a0 a1 t0 t1 t2 n j m
    rw [idx_ok hj f0, lt_ok hj, Int.toNat_natCast, getD_elem hj, wrap_next (by omega), hS] at ht
    generalize decide ((300 : Int) < ((((tyT.elem (a1.getD j tyT.zero)).cells.getD 1 undef).toL.length : Nat) : Int)) = u1 at ht
    generalize decide ((40 : Int) < ((((tyT.elem (a1.getD j tyT.zero)).cells.getD 2 undef).toL.length : Nat) : Int)) = u2 at ht
    cases u1 <;> cases u2 <;> first | exact .inl ⟨_, seen5p a0 a1 (extra := [.var _]) hk (congrArg T.run ht) (hsl _ _ _)⟩ | exact .inr (seen5p a0 a1 (extra := [.var _]) hk (congrArg T.run ht) (hrt _ _ _))
  · have hk : KOK E0 114 [] (bodyOf Tryz.f5) (kAt [1,1,1,1,0,1,0,0,1,0,0,1,1,1] (st5q j 0 n) (hi5q a0 a1 t0 t1 t2) .ret [(2, .bool false)] (hi5q a0 a1 t0 t1 t2)) := kAt_ok (Tri.block (id := 6) (Tri.loop hT))
    have ht := p5pr a0 a1 t0 t1 t2 n j
    rw [idx_ok hj f0, lt_ok hj, Int.toNat_natCast, getD_elem hj, hS] at ht
    generalize decide ((300 : Int) < ((((tyT.elem (a1.getD j tyT.zero)).cells.getD 1 undef).toL.length : Nat) : Int)) = u1 at ht
    generalize decide ((40 : Int) < ((((tyT.elem (a1.getD j tyT.zero)).cells.getD 2 undef).toL.length : Nat) : Int)) = u2 at ht
    cases u1 <;> cases u2 <;> exact .inr (seen5p a0 a1 (extra := [.var _]) hk (congrArg T.run ht) (hrt _ _ _))
theorem out5p (a0 : List tyK.I) (a1 : List tyT.I) (n : Int) : Tri E0 114 [] (sub (bodyOf Tryz.f5) [1,1,1,1,0,1,0,0]) (frm (st5p a1.length n)) (hm5 a0 a1) (.exit 4) (frm [(1, .ptr 0 0), (3, .int .i64 n)]) (hm5 a0 a1) := by
  have ht := p5px a0 a1 n a1.length
  rw [lt_no] at ht
  refine seen5p a0 a1 (extra := []) (kNo_ok (p := [1,1,1,1,0,1,0,0,1,0,0,1,1,1])) (congrArg T.run ht) (fun q hq => ?_)
  simp only [List.mem_cons, List.not_mem_nil, or_false] at hq
  rcases hq with rfl | rfl
  · exact ⟨rfl, .inr rfl, rfl⟩
  · exact ⟨rfl, .inl rfl, rfl⟩
theorem con5r (a0 : List tyK.I) (a1 : List tyT.I) (l0 : a0.length < 1000000000000000) (o0 : ∀ x, x ∈ a0 → tyK.okay x) (l1 : a1.length < 1000000000000000) (o1 : ∀ x, x ∈ a1 → tyT.okay x) : ∃ b, ∀ h, Con E0 5 [tyB.elem (a0, a1)] h (.bool b) h := by
  have fin : ∀ {K : Known} {b : Bool}, KOK E0 114 [] (bodyOf Tryz.f5) K → (runV (XN 5 [14,19,24,36,42,47,52,73,78,90,95,100,113]) K Tryz.f5 (bodyOf Tryz.f5) [tyB.elem (a0, a1)]).run = .ok (.bool b) → ∃ b, ∀ h, Con E0 5 [tyB.elem (a0, a1)] h (.bool b) h := fun hk hr =>
    ⟨_, fun h => Con.pureV (X := XN 5 [14,19,24,36,42,47,52,73,78,90,95,100,113]) g0 noG0 (noCalls fun _ _ _ => rfl) (fn := Tryz.f5) Tryz.func5 (c := bodyOf Tryz.f5) rfl rfl (args := [tyB.elem (a0, a1)]) hk (noRefs1 tyB _) hr (Le.refl _) rfl h⟩
  have hS1 : (askS [AV.ptr (0 : Nat) (0 : Nat), AV.int IntKind.i64 (0 : Int), AV.int IntKind.i64 (0 : Int)]
  [AV.ptr (0 : Nat) (0 : Nat), AV.int IntKind.i64 (0 : Int), AV.int IntKind.i64 (↑(0 : Nat) : Int)]
  [Blk.var [AV.lst (5 : Nat) (List.map tyK.elem a0) Tl.open_, AV.lst (3 : Nat) (List.map tyT.elem a1) Tl.open_]]
  [Blk.var [AV.lst (5 : Nat) (List.map tyK.elem a0) Tl.open_, AV.lst (3 : Nat) (List.map tyT.elem a1) Tl.open_]]) = true := askS_self _ _
  have g1 : ∀ j n, j < a0.length → True → (∃ n', Tri E0 114 [] (sub (bodyOf Tryz.f5) [1,1,1,0,1,0,0]) (frm (st5o j n)) (hm5 a0 a1) .normal (frm (st5o (j + 1) n')) (hm5 a0 a1) ∧ True) ∨ Tri E0 114 [] (sub (bodyOf Tryz.f5) [1,1,1,0,1,0,0]) (frm (st5o j n)) (hm5 a0 a1) .ret (frm [(2, .bool false)]) (hm5 a0 a1) := fun j n hj _ => by
    obtain ⟨⟨c0, c1, c2, c3, c4⟩, hx⟩ : ∃ x : tyK.I, a0.getD j tyK.zero = x := ⟨_, rfl⟩
    have ho : tyK.okay (a0.getD j tyK.zero) := o0 _ (by rw [List.getD_eq_getElem?_getD, List.getElem?_eq_getElem hj]; exact List.getElem_mem hj)
    rw [hx] at ho
    exact (go5o a0 a1 c0 c1 c2 c3 c4 l0 (Nat.lt_of_le_of_lt ho.2.2.2.2.1 (by decide)) j n hj hx).imp (fun ⟨n', h⟩ => ⟨n', h, trivial⟩) id
  have g2 : ∀ j n, j < a1.length → True → (∃ n', Tri E0 114 [] (sub (bodyOf Tryz.f5) [1,1,1,1,0,1,0,0]) (frm (st5p j n)) (hm5 a0 a1) .normal (frm (st5p (j + 1) n')) (hm5 a0 a1) ∧ True) ∨ Tri E0 114 [] (sub (bodyOf Tryz.f5) [1,1,1,1,0,1,0,0]) (frm (st5p j n)) (hm5 a0 a1) .ret (frm [(2, .bool false)]) (hm5 a0 a1) := fun j n hj _ => by
    obtain ⟨⟨t0, t1, t2⟩, hx⟩ : ∃ x : tyT.I, a1.getD j tyT.zero = x := ⟨_, rfl⟩
    have ho : tyT.okay (a1.getD j tyT.zero) := o1 _ (by rw [List.getD_eq_getElem?_getD, List.getElem?_eq_getElem hj]; exact List.getElem_mem hj)
    rw [hx] at ho
    exact (go5p a0 a1 t0 t1 t2 l1 (Nat.lt_of_le_of_lt ho.2.2.1 (by decide)) j n hj hx).imp (fun ⟨n', h⟩ => ⟨n', h, trivial⟩) id
  rcases rounds_or (E := E0) (N := 114) (h0 := []) (c := sub (bodyOf Tryz.f5) [1,1,1,0,1,0,0]) (n := a0.length) (fun _ _ => True) st5o (hm5 a0 a1) [(2, .bool false)] 0 (fun n => [(1, .ptr 0 0), (3, .int .i64 n)]) g1 (fun n _ => out5o a0 a1 n) a0.length 0 0 (by omega) trivial with ⟨n, hT, _⟩ | hT
  · have hk1 : KOK E0 114 [] (bodyOf Tryz.f5) (kAt [1,1,1,0,1] (st5o 0 0) (hm5 a0 a1) .normal [(1, .ptr 0 0), (3, .int .i64 n)] (hm5 a0 a1)) := kAt_ok (Tri.block (id := 0) (Tri.loop hT))
    rcases rounds_or (E := E0) (N := 114) (h0 := []) (c := sub (bodyOf Tryz.f5) [1,1,1,1,0,1,0,0]) (n := a1.length) (fun _ _ => True) st5p (hm5 a0 a1) [(2, .bool false)] 4 (fun n => [(1, .ptr 0 0), (3, .int .i64 n)]) g2 (fun n _ => out5p a0 a1 n) a1.length 0 n (by omega) trivial with ⟨m, hU, _⟩ | hU
    · have hk2 : KOK E0 114 [] (bodyOf Tryz.f5) (kAt [1,1,1,1,0,1] (st5p 0 n) (hm5 a0 a1) .normal [(1, .ptr 0 0), (3, .int .i64 m)] (hm5 a0 a1)) := kAt_ok (Tri.block (id := 4) (Tri.loop hU))
      have ht := congrArg T.run (p5nn a0 a1 n m)
      have hS2 : (askS [AV.ptr (0 : Nat) (0 : Nat), AV.int IntKind.i64 n, AV.int IntKind.i64 (0 : Int)]
  [AV.ptr (0 : Nat) (0 : Nat), AV.int IntKind.i64 n, AV.int IntKind.i64 (↑(0 : Nat) : Int)]
  [Blk.var [AV.lst (5 : Nat) (List.map tyK.elem a0) Tl.open_, AV.lst (3 : Nat) (List.map tyT.elem a1) Tl.open_]]
  [Blk.var [AV.lst (5 : Nat) (List.map tyK.elem a0) Tl.open_, AV.lst (3 : Nat) (List.map tyT.elem a1) Tl.open_]]) = true := askS_self _ _
      rw [hS1, hS2] at ht
      generalize decide ((40 : Int) < ((List.map tyK.elem a0).length : Nat)) = u at ht
      generalize decide ((40 : Int) < ((List.map tyT.elem a1).length : Nat)) = v at ht
      cases u <;> cases v <;> exact fin (hk1.two hk2) ht
    · have hk2 : KOK E0 114 [] (bodyOf Tryz.f5) (kAt [1,1,1,1,0,1] (st5p 0 n) (hm5 a0 a1) .ret [(2, .bool false)] (hm5 a0 a1)) := kAt_ok (Tri.block (id := 4) (Tri.loop hU))
      have ht := congrArg T.run (p5nr a0 a1 n)
      have hS2 : (askS [AV.ptr (0 : Nat) (0 : Nat), AV.int IntKind.i64 n, AV.int IntKind.i64 (0 : Int)]
  [AV.ptr (0 : Nat) (0 : Nat), AV.int IntKind.i64 n, AV.int IntKind.i64 (↑(0 : Nat) : Int)]
  [Blk.var [AV.lst (5 : Nat) (List.map tyK.elem a0) Tl.open_, AV.lst (3 : Nat) (List.map tyT.elem a1) Tl.open_]]
  [Blk.var [AV.lst (5 : Nat) (List.map tyK.elem a0) Tl.open_, AV.lst (3 : Nat) (List.map tyT.elem a1) Tl.open_]]) = true := askS_self _ _
      rw [hS1, hS2] at ht
      generalize decide ((40 : Int) < ((List.map tyK.elem a0).length : Nat)) = u at ht
      generalize decide ((40 : Int) < ((List.map tyT.elem a1).length : Nat)) = v at ht
      cases u <;> cases v <;> exact fin (hk1.two hk2) ht
  · have hk1 : KOK E0 114 [] (bodyOf Tryz.f5) (kAt [1,1,1,0,1] (st5o 0 0) (hm5 a0 a1) .ret [(2, .bool false)] (hm5 a0 a1)) := kAt_ok (Tri.block (id := 0) (Tri.loop hT))
    have ht := congrArg T.run (p5r a0 a1)
    rw [hS1] at ht
    generalize decide ((40 : Int) < ((List.map tyK.elem a0).length : Nat)) = u at ht
    generalize decide ((40 : Int) < ((List.map tyT.elem a1).length : Nat)) = v at ht
    cases u <;> cases v <;> exact fin (hk1.two (kNo_ok (p := [1,1,1,1,0,1]))) ht
theorem con5 (x : tyB.I) (hx : tyB.okay x) : ∃ b, ∀ h, Con E0 5 [tyB.elem x] h (.bool b) h := by
  obtain ⟨a0, a1⟩ := x
  exact con5r a0 a1 (Nat.lt_of_le_of_lt hx.1.1 (by decide)) hx.1.2 (Nat.lt_of_le_of_lt hx.2.1 (by decide)) hx.2.2
def st8a (j : Nat) : List (Nat × AV) := [(2, .ptr 0 0), (3, .ptr 1 0), (5, .int .i64 j)]
def st8b (j : Nat) : List (Nat × AV) := [(2, .ptr 0 0), (3, .ptr 1 0), (6, .int .i64 j)]
def st8i (i : Int) (j : Nat) : List (Nat × AV) := [(2, .ptr 0 0), (3, .ptr 1 0), (6, .int .i64 i), (7, .ptr 2 0), (8, .ptr 3 0), (9, .int .i64 j)]
theorem p8a (a0 : List tyK.I) (a1 : List tyT.I) (b0 : List tyK.I) (b1 : List tyT.I) (i : Int) : obsK (XC 8 [19,27,32,46,51,69,77,85,90,108,115,122,129] [clEE 25 tyK, clLL 26 tyC, clLL 27 tyI]) (fun _ => none) 130 (sub (bodyOf Tryz.f8) [1,1,0,1,0,0]) [1,1,0,1,0,0] (frm [(2, .ptr 0 0), (3, .ptr 1 0), (5, .int .i64 i)]) [.var [encL tyK a0, encL tyT a1], .var [encL tyK b0, encL tyT b1]] [2,3,4,5] =
  (T.br (decide (i < (↑(List.map tyK.elem a0).length : Int)))
    (T.br (decide ((0 : Int) ≤ i) && decide (i < (↑(List.map tyK.elem a0).length : Int)) &&
  fitsC Tryz.prog (37 : Nat) ((List.map tyK.elem a0).getD i.toNat undef))
      (T.br (decide ((0 : Int) ≤ i) && decide (i < (↑(List.map tyK.elem b0).length : Int)) &&
  fitsC Tryz.prog (37 : Nat) ((List.map tyK.elem b0).getD i.toNat undef))
        (T.br (askQ (clEE (25 : FuncId) tyK).2
  [AV.agg
      [AV.str (((List.map tyK.elem a0).getD i.toNat undef).cells.getD (0 : Nat) undef).toS,
        AV.str (((List.map tyK.elem a0).getD i.toNat undef).cells.getD (1 : Nat) undef).toS,
        AV.lst (5 : Nat) (((List.map tyK.elem a0).getD i.toNat undef).cells.getD (2 : Nat) undef).toL Tl.open_,
        AV.lst (2 : Nat) (((List.map tyK.elem a0).getD i.toNat undef).cells.getD (3 : Nat) undef).toL Tl.open_,
        AV.lst (5 : Nat) (((List.map tyK.elem a0).getD i.toNat undef).cells.getD (4 : Nat) undef).toL Tl.open_],
    AV.agg
      [AV.str (((List.map tyK.elem b0).getD i.toNat undef).cells.getD (0 : Nat) undef).toS,
        AV.str (((List.map tyK.elem b0).getD i.toNat undef).cells.getD (1 : Nat) undef).toS,
        AV.lst (5 : Nat) (((List.map tyK.elem b0).getD i.toNat undef).cells.getD (2 : Nat) undef).toL Tl.open_,
        AV.lst (2 : Nat) (((List.map tyK.elem b0).getD i.toNat undef).cells.getD (3 : Nat) undef).toL Tl.open_,
        AV.lst (5 : Nat) (((List.map tyK.elem b0).getD i.toNat undef).cells.getD (4 : Nat) undef).toL Tl.open_]])
          (T.br (!ask
    (AV.agg
        [AV.str (((List.map tyK.elem a0).getD i.toNat undef).cells.getD (0 : Nat) undef).toS,
          AV.str (((List.map tyK.elem a0).getD i.toNat undef).cells.getD (1 : Nat) undef).toS,
          AV.lst (5 : Nat) (((List.map tyK.elem a0).getD i.toNat undef).cells.getD (2 : Nat) undef).toL Tl.open_,
          AV.lst (2 : Nat) (((List.map tyK.elem a0).getD i.toNat undef).cells.getD (3 : Nat) undef).toL Tl.open_,
          AV.lst (5 : Nat) (((List.map tyK.elem a0).getD i.toNat undef).cells.getD (4 : Nat) undef).toL Tl.open_] =
      AV.agg
        [AV.str (((List.map tyK.elem b0).getD i.toNat undef).cells.getD (0 : Nat) undef).toS,
          AV.str (((List.map tyK.elem b0).getD i.toNat undef).cells.getD (1 : Nat) undef).toS,
          AV.lst (5 : Nat) (((List.map tyK.elem b0).getD i.toNat undef).cells.getD (2 : Nat) undef).toL Tl.open_,
          AV.lst (2 : Nat) (((List.map tyK.elem b0).getD i.toNat undef).cells.getD (3 : Nat) undef).toL Tl.open_,
          AV.lst (5 : Nat) (((List.map tyK.elem b0).getD i.toNat undef).cells.getD (4 : Nat) undef).toL Tl.open_]))
            (T.leaf ((X.ret, [AV.ptr 0 0, AV.ptr 1 0, AV.bool false, AV.int IntKind.i64 i],
  [Blk.var [AV.lst 5 (List.map tyK.elem a0) Tl.open_, AV.lst 3 (List.map tyT.elem a1) Tl.open_],
    Blk.var [AV.lst 5 (List.map tyK.elem b0) Tl.open_, AV.lst 3 (List.map tyT.elem b1) Tl.open_]])))
            (T.leaf ((X.normal, [AV.ptr 0 0, AV.ptr 1 0, AV.fsl 0 [], AV.int IntKind.i64 (IntKind.i64.wrap (i + 1))],
  [Blk.var [AV.lst 5 (List.map tyK.elem a0) Tl.open_, AV.lst 3 (List.map tyT.elem a1) Tl.open_],
    Blk.var [AV.lst 5 (List.map tyK.elem b0) Tl.open_, AV.lst 3 (List.map tyT.elem b1) Tl.open_]]))))
          T.fail)
        T.fail)
      T.fail)
    (T.leaf ((X.exit 0, [AV.ptr 0 0, AV.ptr 1 0, AV.fsl 0 [], AV.int IntKind.i64 i],
  [Blk.var [AV.lst 5 (List.map tyK.elem a0) Tl.open_, AV.lst 3 (List.map tyT.elem a1) Tl.open_],
    Blk.var [AV.lst 5 (List.map tyK.elem b0) Tl.open_, AV.lst 3 (List.map tyT.elem b1) Tl.open_]])))) := by kernel_rfl
theorem p8i (a0 : List tyK.I) (a1 : List tyT.I) (b0 : List tyK.I) (b1 : List tyT.I) (s0 : ByteArray) (s1 : List tyC.I) (s2 : List tyV.I) (t0 : ByteArray) (t1 : List tyC.I) (t2 : List tyV.I) (i k : Int) : obsK (XC 8 [19,27,32,46,51,69,77,85,90,108,115,122,129] [clEE 25 tyK, clLL 26 tyC, clLL 27 tyI]) (fun _ => none) 130 (sub (bodyOf Tryz.f8) [1,1,1,0,1,0,0,1,0,0,1,1,1,1,0,0]) [1,1,1,0,1,0,0,1,0,0,1,1,1,1,0,0] (frm [(2, .ptr 0 0), (3, .ptr 1 0), (6, .int .i64 i), (7, .ptr 2 0), (8, .ptr 3 0), (9, .int .i64 k)]) [.var [encL tyK a0, encL tyT a1], .var [encL tyK b0, encL tyT b1], .var [.str s0, encL tyC s1, encL tyV s2], .var [.str t0, encL tyC t1, encL tyV t2]] [2,3,4,6,7,8,9] =
  (T.br (decide (k < (↑(List.map tyV.elem s2).length : Int)))
    (T.br (decide ((0 : Int) ≤ k) && decide (k < (↑(List.map tyV.elem s2).length : Int)) &&
  fitsC Tryz.prog (46 : Nat) ((List.map tyV.elem s2).getD k.toNat undef))
      (T.br (decide ((0 : Int) ≤ k) && decide (k < (↑(List.map tyV.elem t2).length : Int)) &&
  fitsC Tryz.prog (46 : Nat) ((List.map tyV.elem t2).getD k.toNat undef))
        (T.br (!decide
    ((((List.map tyV.elem s2).getD k.toNat undef).cells.getD (0 : Nat) undef).toS =
      (((List.map tyV.elem t2).getD k.toNat undef).cells.getD (0 : Nat) undef).toS))
          (T.br true
            (T.br true
              (T.br true
                (T.leaf ((X.ret,
  [AV.ptr 0 0, AV.ptr 1 0, AV.bool false, AV.int IntKind.i64 i, AV.ptr 2 0, AV.ptr 3 0, AV.int IntKind.i64 k],
  [Blk.var [AV.lst 5 (List.map tyK.elem a0) Tl.open_, AV.lst 3 (List.map tyT.elem a1) Tl.open_],
    Blk.var [AV.lst 5 (List.map tyK.elem b0) Tl.open_, AV.lst 3 (List.map tyT.elem b1) Tl.open_],
    Blk.var [AV.str s0, AV.lst 5 (List.map tyC.elem s1) Tl.open_, AV.lst 4 (List.map tyV.elem s2) Tl.open_],
    Blk.var [AV.str t0, AV.lst 5 (List.map tyC.elem t1) Tl.open_, AV.lst 4 (List.map tyV.elem t2) Tl.open_],
    Blk.var
      [AV.str (((List.map tyV.elem s2).getD k.toNat undef).cells.getD 0 undef).toS,
        AV.int IntKind.i64 (((List.map tyV.elem s2).getD k.toNat undef).cells.getD 1 undef).toI,
        AV.str (((List.map tyV.elem s2).getD k.toNat undef).cells.getD 2 undef).toS,
        AV.lst 2 (((List.map tyV.elem s2).getD k.toNat undef).cells.getD 3 undef).toL Tl.open_],
    Blk.var
      [AV.str (((List.map tyV.elem t2).getD k.toNat undef).cells.getD 0 undef).toS,
        AV.int IntKind.i64 (((List.map tyV.elem t2).getD k.toNat undef).cells.getD 1 undef).toI,
        AV.str (((List.map tyV.elem t2).getD k.toNat undef).cells.getD 2 undef).toS,
        AV.lst 2 (((List.map tyV.elem t2).getD k.toNat undef).cells.getD 3 undef).toL Tl.open_]])))
                (T.leaf ((X.normal,
  [AV.ptr 0 0, AV.ptr 1 0, AV.fsl 0 [], AV.int IntKind.i64 i, AV.ptr 2 0, AV.ptr 3 0,
    AV.int IntKind.i64 (IntKind.i64.wrap (k + 1))],
  [Blk.var [AV.lst 5 (List.map tyK.elem a0) Tl.open_, AV.lst 3 (List.map tyT.elem a1) Tl.open_],
    Blk.var [AV.lst 5 (List.map tyK.elem b0) Tl.open_, AV.lst 3 (List.map tyT.elem b1) Tl.open_],
    Blk.var [AV.str s0, AV.lst 5 (List.map tyC.elem s1) Tl.open_, AV.lst 4 (List.map tyV.elem s2) Tl.open_],
    Blk.var [AV.str t0, AV.lst 5 (List.map tyC.elem t1) Tl.open_, AV.lst 4 (List.map tyV.elem t2) Tl.open_],
    Blk.var
      [AV.str (((List.map tyV.elem s2).getD k.toNat undef).cells.getD 0 undef).toS,
        AV.int IntKind.i64 (((List.map tyV.elem s2).getD k.toNat undef).cells.getD 1 undef).toI,
        AV.str (((List.map tyV.elem s2).getD k.toNat undef).cells.getD 2 undef).toS,
        AV.lst 2 (((List.map tyV.elem s2).getD k.toNat undef).cells.getD 3 undef).toL Tl.open_],
    Blk.var
      [AV.str (((List.map tyV.elem t2).getD k.toNat undef).cells.getD 0 undef).toS,
        AV.int IntKind.i64 (((List.map tyV.elem t2).getD k.toNat undef).cells.getD 1 undef).toI,
        AV.str (((List.map tyV.elem t2).getD k.toNat undef).cells.getD 2 undef).toS,
        AV.lst 2 (((List.map tyV.elem t2).getD k.toNat undef).cells.getD 3 undef).toL Tl.open_]]))))
              (T.br (askQ (clLL (27 : FuncId) tyI).2
  [AV.lst (2 : Nat) (((List.map tyV.elem s2).getD k.toNat undef).cells.getD (3 : Nat) undef).toL Tl.open_,
    AV.lst (2 : Nat) (((List.map tyV.elem t2).getD k.toNat undef).cells.getD (3 : Nat) undef).toL Tl.open_])
                (T.br (!ask
    (AV.lst (2 : Nat) (((List.map tyV.elem s2).getD k.toNat undef).cells.getD (3 : Nat) undef).toL Tl.open_ =
      AV.lst (2 : Nat) (((List.map tyV.elem t2).getD k.toNat undef).cells.getD (3 : Nat) undef).toL Tl.open_))
                  (T.leaf ((X.ret,
  [AV.ptr 0 0, AV.ptr 1 0, AV.bool false, AV.int IntKind.i64 i, AV.ptr 2 0, AV.ptr 3 0, AV.int IntKind.i64 k],
  [Blk.var [AV.lst 5 (List.map tyK.elem a0) Tl.open_, AV.lst 3 (List.map tyT.elem a1) Tl.open_],
    Blk.var [AV.lst 5 (List.map tyK.elem b0) Tl.open_, AV.lst 3 (List.map tyT.elem b1) Tl.open_],
    Blk.var [AV.str s0, AV.lst 5 (List.map tyC.elem s1) Tl.open_, AV.lst 4 (List.map tyV.elem s2) Tl.open_],
    Blk.var [AV.str t0, AV.lst 5 (List.map tyC.elem t1) Tl.open_, AV.lst 4 (List.map tyV.elem t2) Tl.open_],
    Blk.var
      [AV.str (((List.map tyV.elem s2).getD k.toNat undef).cells.getD 0 undef).toS,
        AV.int IntKind.i64 (((List.map tyV.elem s2).getD k.toNat undef).cells.getD 1 undef).toI,
        AV.str (((List.map tyV.elem s2).getD k.toNat undef).cells.getD 2 undef).toS,
        AV.lst 2 (((List.map tyV.elem s2).getD k.toNat undef).cells.getD 3 undef).toL Tl.open_],
    Blk.var
      [AV.str (((List.map tyV.elem t2).getD k.toNat undef).cells.getD 0 undef).toS,
        AV.int IntKind.i64 (((List.map tyV.elem t2).getD k.toNat undef).cells.getD 1 undef).toI,
        AV.str (((List.map tyV.elem t2).getD k.toNat undef).cells.getD 2 undef).toS,
        AV.lst 2 (((List.map tyV.elem t2).getD k.toNat undef).cells.getD 3 undef).toL Tl.open_]])))
                  (T.leaf ((X.normal,
  [AV.ptr 0 0, AV.ptr 1 0, AV.fsl 0 [], AV.int IntKind.i64 i, AV.ptr 2 0, AV.ptr 3 0,
    AV.int IntKind.i64 (IntKind.i64.wrap (k + 1))],
  [Blk.var [AV.lst 5 (List.map tyK.elem a0) Tl.open_, AV.lst 3 (List.map tyT.elem a1) Tl.open_],
    Blk.var [AV.lst 5 (List.map tyK.elem b0) Tl.open_, AV.lst 3 (List.map tyT.elem b1) Tl.open_],
    Blk.var [AV.str s0, AV.lst 5 (List.map tyC.elem s1) Tl.open_, AV.lst 4 (List.map tyV.elem s2) Tl.open_],
    Blk.var [AV.str t0, AV.lst 5 (List.map tyC.elem t1) Tl.open_, AV.lst 4 (List.map tyV.elem t2) Tl.open_],
    Blk.var
      [AV.str (((List.map tyV.elem s2).getD k.toNat undef).cells.getD 0 undef).toS,
        AV.int IntKind.i64 (((List.map tyV.elem s2).getD k.toNat undef).cells.getD 1 undef).toI,
        AV.str (((List.map tyV.elem s2).getD k.toNat undef).cells.getD 2 undef).toS,
        AV.lst 2 (((List.map tyV.elem s2).getD k.toNat undef).cells.getD 3 undef).toL Tl.open_],
    Blk.var
      [AV.str (((List.map tyV.elem t2).getD k.toNat undef).cells.getD 0 undef).toS,
        AV.int IntKind.i64 (((List.map tyV.elem t2).getD k.toNat undef).cells.getD 1 undef).toI,
        AV.str (((List.map tyV.elem t2).getD k.toNat undef).cells.getD 2 undef).toS,
        AV.lst 2 (((List.map tyV.elem t2).getD k.toNat undef).cells.getD 3 undef).toL Tl.open_]]))))
                T.fail))
            (T.br (!decide
    ((((List.map tyV.elem s2).getD k.toNat undef).cells.getD (2 : Nat) undef).toS =
      (((List.map tyV.elem t2).getD k.toNat undef).cells.getD (2 : Nat) undef).toS))
              (T.br true
                (T.leaf ((X.ret,
  [AV.ptr 0 0, AV.ptr 1 0, AV.bool false, AV.int IntKind.i64 i, AV.ptr 2 0, AV.ptr 3 0, AV.int IntKind.i64 k],
  [Blk.var [AV.lst 5 (List.map tyK.elem a0) Tl.open_, AV.lst 3 (List.map tyT.elem a1) Tl.open_],
    Blk.var [AV.lst 5 (List.map tyK.elem b0) Tl.open_, AV.lst 3 (List.map tyT.elem b1) Tl.open_],
    Blk.var [AV.str s0, AV.lst 5 (List.map tyC.elem s1) Tl.open_, AV.lst 4 (List.map tyV.elem s2) Tl.open_],
    Blk.var [AV.str t0, AV.lst 5 (List.map tyC.elem t1) Tl.open_, AV.lst 4 (List.map tyV.elem t2) Tl.open_],
    Blk.var
      [AV.str (((List.map tyV.elem s2).getD k.toNat undef).cells.getD 0 undef).toS,
        AV.int IntKind.i64 (((List.map tyV.elem s2).getD k.toNat undef).cells.getD 1 undef).toI,
        AV.str (((List.map tyV.elem s2).getD k.toNat undef).cells.getD 2 undef).toS,
        AV.lst 2 (((List.map tyV.elem s2).getD k.toNat undef).cells.getD 3 undef).toL Tl.open_],
    Blk.var
      [AV.str (((List.map tyV.elem t2).getD k.toNat undef).cells.getD 0 undef).toS,
        AV.int IntKind.i64 (((List.map tyV.elem t2).getD k.toNat undef).cells.getD 1 undef).toI,
        AV.str (((List.map tyV.elem t2).getD k.toNat undef).cells.getD 2 undef).toS,
        AV.lst 2 (((List.map tyV.elem t2).getD k.toNat undef).cells.getD 3 undef).toL Tl.open_]])))
                (T.leaf ((X.normal,
  [AV.ptr 0 0, AV.ptr 1 0, AV.fsl 0 [], AV.int IntKind.i64 i, AV.ptr 2 0, AV.ptr 3 0,
    AV.int IntKind.i64 (IntKind.i64.wrap (k + 1))],
  [Blk.var [AV.lst 5 (List.map tyK.elem a0) Tl.open_, AV.lst 3 (List.map tyT.elem a1) Tl.open_],
    Blk.var [AV.lst 5 (List.map tyK.elem b0) Tl.open_, AV.lst 3 (List.map tyT.elem b1) Tl.open_],
    Blk.var [AV.str s0, AV.lst 5 (List.map tyC.elem s1) Tl.open_, AV.lst 4 (List.map tyV.elem s2) Tl.open_],
    Blk.var [AV.str t0, AV.lst 5 (List.map tyC.elem t1) Tl.open_, AV.lst 4 (List.map tyV.elem t2) Tl.open_],
    Blk.var
      [AV.str (((List.map tyV.elem s2).getD k.toNat undef).cells.getD 0 undef).toS,
        AV.int IntKind.i64 (((List.map tyV.elem s2).getD k.toNat undef).cells.getD 1 undef).toI,
        AV.str (((List.map tyV.elem s2).getD k.toNat undef).cells.getD 2 undef).toS,
        AV.lst 2 (((List.map tyV.elem s2).getD k.toNat undef).cells.getD 3 undef).toL Tl.open_],
    Blk.var
      [AV.str (((List.map tyV.elem t2).getD k.toNat undef).cells.getD 0 undef).toS,
        AV.int IntKind.i64 (((List.map tyV.elem t2).getD k.toNat undef).cells.getD 1 undef).toI,
        AV.str (((List.map tyV.elem t2).getD k.toNat undef).cells.getD 2 undef).toS,
        AV.lst 2 (((List.map tyV.elem t2).getD k.toNat undef).cells.getD 3 undef).toL Tl.open_]]))))
              (T.br (askQ (clLL (27 : FuncId) tyI).2
  [AV.lst (2 : Nat) (((List.map tyV.elem s2).getD k.toNat undef).cells.getD (3 : Nat) undef).toL Tl.open_,
    AV.lst (2 : Nat) (((List.map tyV.elem t2).getD k.toNat undef).cells.getD (3 : Nat) undef).toL Tl.open_])
                (T.br (!ask
    (AV.lst (2 : Nat) (((List.map tyV.elem s2).getD k.toNat undef).cells.getD (3 : Nat) undef).toL Tl.open_ =
      AV.lst (2 : Nat) (((List.map tyV.elem t2).getD k.toNat undef).cells.getD (3 : Nat) undef).toL Tl.open_))
                  (T.leaf ((X.ret,
  [AV.ptr 0 0, AV.ptr 1 0, AV.bool false, AV.int IntKind.i64 i, AV.ptr 2 0, AV.ptr 3 0, AV.int IntKind.i64 k],
  [Blk.var [AV.lst 5 (List.map tyK.elem a0) Tl.open_, AV.lst 3 (List.map tyT.elem a1) Tl.open_],
    Blk.var [AV.lst 5 (List.map tyK.elem b0) Tl.open_, AV.lst 3 (List.map tyT.elem b1) Tl.open_],
    Blk.var [AV.str s0, AV.lst 5 (List.map tyC.elem s1) Tl.open_, AV.lst 4 (List.map tyV.elem s2) Tl.open_],
    Blk.var [AV.str t0, AV.lst 5 (List.map tyC.elem t1) Tl.open_, AV.lst 4 (List.map tyV.elem t2) Tl.open_],
    Blk.var
      [AV.str (((List.map tyV.elem s2).getD k.toNat undef).cells.getD 0 undef).toS,
        AV.int IntKind.i64 (((List.map tyV.elem s2).getD k.toNat undef).cells.getD 1 undef).toI,
        AV.str (((List.map tyV.elem s2).getD k.toNat undef).cells.getD 2 undef).toS,
        AV.lst 2 (((List.map tyV.elem s2).getD k.toNat undef).cells.getD 3 undef).toL Tl.open_],
    Blk.var
      [AV.str (((List.map tyV.elem t2).getD k.toNat undef).cells.getD 0 undef).toS,
        AV.int IntKind.i64 (((List.map tyV.elem t2).getD k.toNat undef).cells.getD 1 undef).toI,
        AV.str (((List.map tyV.elem t2).getD k.toNat undef).cells.getD 2 undef).toS,
        AV.lst 2 (((List.map tyV.elem t2).getD k.toNat undef).cells.getD 3 undef).toL Tl.open_]])))
                  (T.leaf ((X.normal,
  [AV.ptr 0 0, AV.ptr 1 0, AV.fsl 0 [], AV.int IntKind.i64 i, AV.ptr 2 0, AV.ptr 3 0,
    AV.int IntKind.i64 (IntKind.i64.wrap (k + 1))],
  [Blk.var [AV.lst 5 (List.map tyK.elem a0) Tl.open_, AV.lst 3 (List.map tyT.elem a1) Tl.open_],
    Blk.var [AV.lst 5 (List.map tyK.elem b0) Tl.open_, AV.lst 3 (List.map tyT.elem b1) Tl.open_],
    Blk.var [AV.str s0, AV.lst 5 (List.map tyC.elem s1) Tl.open_, AV.lst 4 (List.map tyV.elem s2) Tl.open_],
    Blk.var [AV.str t0, AV.lst 5 (List.map tyC.elem t1) Tl.open_, AV.lst 4 (List.map tyV.elem t2) Tl.open_],
    Blk.var
      [AV.str (((List.map tyV.elem s2).getD k.toNat undef).cells.getD 0 undef).toS,
        AV.int IntKind.i64 (((List.map tyV.elem s2).getD k.toNat undef).cells.getD 1 undef).toI,
        AV.str (((List.map tyV.elem s2).getD k.toNat undef).cells.getD 2 undef).toS,
        AV.lst 2 (((List.map tyV.elem s2).getD k.toNat undef).cells.getD 3 undef).toL Tl.open_],
    Blk.var
      [AV.str (((List.map tyV.elem t2).getD k.toNat undef).cells.getD 0 undef).toS,
        AV.int IntKind.i64 (((List.map tyV.elem t2).getD k.toNat undef).cells.getD 1 undef).toI,
        AV.str (((List.map tyV.elem t2).getD k.toNat undef).cells.getD 2 undef).toS,
        AV.lst 2 (((List.map tyV.elem t2).getD k.toNat undef).cells.getD 3 undef).toL Tl.open_]]))))
                T.fail)))
          (T.br (!decide
    ((((List.map tyV.elem s2).getD k.toNat undef).cells.getD (1 : Nat) undef).toI =
      (((List.map tyV.elem t2).getD k.toNat undef).cells.getD (1 : Nat) undef).toI))
            (T.br true
              (T.br true
                (T.leaf ((X.ret,
  [AV.ptr 0 0, AV.ptr 1 0, AV.bool false, AV.int IntKind.i64 i, AV.ptr 2 0, AV.ptr 3 0, AV.int IntKind.i64 k],
  [Blk.var [AV.lst 5 (List.map tyK.elem a0) Tl.open_, AV.lst 3 (List.map tyT.elem a1) Tl.open_],
    Blk.var [AV.lst 5 (List.map tyK.elem b0) Tl.open_, AV.lst 3 (List.map tyT.elem b1) Tl.open_],
    Blk.var [AV.str s0, AV.lst 5 (List.map tyC.elem s1) Tl.open_, AV.lst 4 (List.map tyV.elem s2) Tl.open_],
    Blk.var [AV.str t0, AV.lst 5 (List.map tyC.elem t1) Tl.open_, AV.lst 4 (List.map tyV.elem t2) Tl.open_],
    Blk.var
      [AV.str (((List.map tyV.elem s2).getD k.toNat undef).cells.getD 0 undef).toS,
        AV.int IntKind.i64 (((List.map tyV.elem s2).getD k.toNat undef).cells.getD 1 undef).toI,
        AV.str (((List.map tyV.elem s2).getD k.toNat undef).cells.getD 2 undef).toS,
        AV.lst 2 (((List.map tyV.elem s2).getD k.toNat undef).cells.getD 3 undef).toL Tl.open_],
    Blk.var
      [AV.str (((List.map tyV.elem t2).getD k.toNat undef).cells.getD 0 undef).toS,
        AV.int IntKind.i64 (((List.map tyV.elem t2).getD k.toNat undef).cells.getD 1 undef).toI,
        AV.str (((List.map tyV.elem t2).getD k.toNat undef).cells.getD 2 undef).toS,
        AV.lst 2 (((List.map tyV.elem t2).getD k.toNat undef).cells.getD 3 undef).toL Tl.open_]])))
                (T.leaf ((X.normal,
  [AV.ptr 0 0, AV.ptr 1 0, AV.fsl 0 [], AV.int IntKind.i64 i, AV.ptr 2 0, AV.ptr 3 0,
    AV.int IntKind.i64 (IntKind.i64.wrap (k + 1))],
  [Blk.var [AV.lst 5 (List.map tyK.elem a0) Tl.open_, AV.lst 3 (List.map tyT.elem a1) Tl.open_],
    Blk.var [AV.lst 5 (List.map tyK.elem b0) Tl.open_, AV.lst 3 (List.map tyT.elem b1) Tl.open_],
    Blk.var [AV.str s0, AV.lst 5 (List.map tyC.elem s1) Tl.open_, AV.lst 4 (List.map tyV.elem s2) Tl.open_],
    Blk.var [AV.str t0, AV.lst 5 (List.map tyC.elem t1) Tl.open_, AV.lst 4 (List.map tyV.elem t2) Tl.open_],
    Blk.var
      [AV.str (((List.map tyV.elem s2).getD k.toNat undef).cells.getD 0 undef).toS,
        AV.int IntKind.i64 (((List.map tyV.elem s2).getD k.toNat undef).cells.getD 1 undef).toI,
        AV.str (((List.map tyV.elem s2).getD k.toNat undef).cells.getD 2 undef).toS,
        AV.lst 2 (((List.map tyV.elem s2).getD k.toNat undef).cells.getD 3 undef).toL Tl.open_],
    Blk.var
      [AV.str (((List.map tyV.elem t2).getD k.toNat undef).cells.getD 0 undef).toS,
        AV.int IntKind.i64 (((List.map tyV.elem t2).getD k.toNat undef).cells.getD 1 undef).toI,
        AV.str (((List.map tyV.elem t2).getD k.toNat undef).cells.getD 2 undef).toS,
        AV.lst 2 (((List.map tyV.elem t2).getD k.toNat undef).cells.getD 3 undef).toL Tl.open_]]))))
              (T.br (askQ (clLL (27 : FuncId) tyI).2
  [AV.lst (2 : Nat) (((List.map tyV.elem s2).getD k.toNat undef).cells.getD (3 : Nat) undef).toL Tl.open_,
    AV.lst (2 : Nat) (((List.map tyV.elem t2).getD k.toNat undef).cells.getD (3 : Nat) undef).toL Tl.open_])
                (T.br (!ask
    (AV.lst (2 : Nat) (((List.map tyV.elem s2).getD k.toNat undef).cells.getD (3 : Nat) undef).toL Tl.open_ =
      AV.lst (2 : Nat) (((List.map tyV.elem t2).getD k.toNat undef).cells.getD (3 : Nat) undef).toL Tl.open_))
                  (T.leaf ((X.ret,
  [AV.ptr 0 0, AV.ptr 1 0, AV.bool false, AV.int IntKind.i64 i, AV.ptr 2 0, AV.ptr 3 0, AV.int IntKind.i64 k],
  [Blk.var [AV.lst 5 (List.map tyK.elem a0) Tl.open_, AV.lst 3 (List.map tyT.elem a1) Tl.open_],
    Blk.var [AV.lst 5 (List.map tyK.elem b0) Tl.open_, AV.lst 3 (List.map tyT.elem b1) Tl.open_],
    Blk.var [AV.str s0, AV.lst 5 (List.map tyC.elem s1) Tl.open_, AV.lst 4 (List.map tyV.elem s2) Tl.open_],
    Blk.var [AV.str t0, AV.lst 5 (List.map tyC.elem t1) Tl.open_, AV.lst 4 (List.map tyV.elem t2) Tl.open_],
    Blk.var
      [AV.str (((List.map tyV.elem s2).getD k.toNat undef).cells.getD 0 undef).toS,
        AV.int IntKind.i64 (((List.map tyV.elem s2).getD k.toNat undef).cells.getD 1 undef).toI,
        AV.str (((List.map tyV.elem s2).getD k.toNat undef).cells.getD 2 undef).toS,
        AV.lst 2 (((List.map tyV.elem s2).getD k.toNat undef).cells.getD 3 undef).toL Tl.open_],
    Blk.var
      [AV.str (((List.map tyV.elem t2).getD k.toNat undef).cells.getD 0 undef).toS,
        AV.int IntKind.i64 (((List.map tyV.elem t2).getD k.toNat undef).cells.getD 1 undef).toI,
        AV.str (((List.map tyV.elem t2).getD k.toNat undef).cells.getD 2 undef).toS,
        AV.lst 2 (((List.map tyV.elem t2).getD k.toNat undef).cells.getD 3 undef).toL Tl.open_]])))
                  (T.leaf ((X.normal,
  [AV.ptr 0 0, AV.ptr 1 0, AV.fsl 0 [], AV.int IntKind.i64 i, AV.ptr 2 0, AV.ptr 3 0,
    AV.int IntKind.i64 (IntKind.i64.wrap (k + 1))],
  [Blk.var [AV.lst 5 (List.map tyK.elem a0) Tl.open_, AV.lst 3 (List.map tyT.elem a1) Tl.open_],
    Blk.var [AV.lst 5 (List.map tyK.elem b0) Tl.open_, AV.lst 3 (List.map tyT.elem b1) Tl.open_],
    Blk.var [AV.str s0, AV.lst 5 (List.map tyC.elem s1) Tl.open_, AV.lst 4 (List.map tyV.elem s2) Tl.open_],
    Blk.var [AV.str t0, AV.lst 5 (List.map tyC.elem t1) Tl.open_, AV.lst 4 (List.map tyV.elem t2) Tl.open_],
    Blk.var
      [AV.str (((List.map tyV.elem s2).getD k.toNat undef).cells.getD 0 undef).toS,
        AV.int IntKind.i64 (((List.map tyV.elem s2).getD k.toNat undef).cells.getD 1 undef).toI,
        AV.str (((List.map tyV.elem s2).getD k.toNat undef).cells.getD 2 undef).toS,
        AV.lst 2 (((List.map tyV.elem s2).getD k.toNat undef).cells.getD 3 undef).toL Tl.open_],
    Blk.var
      [AV.str (((List.map tyV.elem t2).getD k.toNat undef).cells.getD 0 undef).toS,
        AV.int IntKind.i64 (((List.map tyV.elem t2).getD k.toNat undef).cells.getD 1 undef).toI,
        AV.str (((List.map tyV.elem t2).getD k.toNat undef).cells.getD 2 undef).toS,
        AV.lst 2 (((List.map tyV.elem t2).getD k.toNat undef).cells.getD 3 undef).toL Tl.open_]]))))
                T.fail))
            (T.br (!decide
    ((((List.map tyV.elem s2).getD k.toNat undef).cells.getD (2 : Nat) undef).toS =
      (((List.map tyV.elem t2).getD k.toNat undef).cells.getD (2 : Nat) undef).toS))
              (T.br true
                (T.leaf ((X.ret,
  [AV.ptr 0 0, AV.ptr 1 0, AV.bool false, AV.int IntKind.i64 i, AV.ptr 2 0, AV.ptr 3 0, AV.int IntKind.i64 k],
  [Blk.var [AV.lst 5 (List.map tyK.elem a0) Tl.open_, AV.lst 3 (List.map tyT.elem a1) Tl.open_],
    Blk.var [AV.lst 5 (List.map tyK.elem b0) Tl.open_, AV.lst 3 (List.map tyT.elem b1) Tl.open_],
    Blk.var [AV.str s0, AV.lst 5 (List.map tyC.elem s1) Tl.open_, AV.lst 4 (List.map tyV.elem s2) Tl.open_],
    Blk.var [AV.str t0, AV.lst 5 (List.map tyC.elem t1) Tl.open_, AV.lst 4 (List.map tyV.elem t2) Tl.open_],
    Blk.var
      [AV.str (((List.map tyV.elem s2).getD k.toNat undef).cells.getD 0 undef).toS,
        AV.int IntKind.i64 (((List.map tyV.elem s2).getD k.toNat undef).cells.getD 1 undef).toI,
        AV.str (((List.map tyV.elem s2).getD k.toNat undef).cells.getD 2 undef).toS,
        AV.lst 2 (((List.map tyV.elem s2).getD k.toNat undef).cells.getD 3 undef).toL Tl.open_],
    Blk.var
      [AV.str (((List.map tyV.elem t2).getD k.toNat undef).cells.getD 0 undef).toS,
        AV.int IntKind.i64 (((List.map tyV.elem t2).getD k.toNat undef).cells.getD 1 undef).toI,
        AV.str (((List.map tyV.elem t2).getD k.toNat undef).cells.getD 2 undef).toS,
        AV.lst 2 (((List.map tyV.elem t2).getD k.toNat undef).cells.getD 3 undef).toL Tl.open_]])))
                (T.leaf ((X.normal,
  [AV.ptr 0 0, AV.ptr 1 0, AV.fsl 0 [], AV.int IntKind.i64 i, AV.ptr 2 0, AV.ptr 3 0,
    AV.int IntKind.i64 (IntKind.i64.wrap (k + 1))],
  [Blk.var [AV.lst 5 (List.map tyK.elem a0) Tl.open_, AV.lst 3 (List.map tyT.elem a1) Tl.open_],
    Blk.var [AV.lst 5 (List.map tyK.elem b0) Tl.open_, AV.lst 3 (List.map tyT.elem b1) Tl.open_],
    Blk.var [AV.str s0, AV.lst 5 (List.map tyC.elem s1) Tl.open_, AV.lst 4 (List.map tyV.elem s2) Tl.open_],
    Blk.var [AV.str t0, AV.lst 5 (List.map tyC.elem t1) Tl.open_, AV.lst 4 (List.map tyV.elem t2) Tl.open_],
    Blk.var
      [AV.str (((List.map tyV.elem s2).getD k.toNat undef).cells.getD 0 undef).toS,
        AV.int IntKind.i64 (((List.map tyV.elem s2).getD k.toNat undef).cells.getD 1 undef).toI,
        AV.str (((List.map tyV.elem s2).getD k.toNat undef).cells.getD 2 undef).toS,
        AV.lst 2 (((List.map tyV.elem s2).getD k.toNat undef).cells.getD 3 undef).toL Tl.open_],
    Blk.var
      [AV.str (((List.map tyV.elem t2).getD k.toNat undef).cells.getD 0 undef).toS,
        AV.int IntKind.i64 (((List.map tyV.elem t2).getD k.toNat undef).cells.getD 1 undef).toI,
        AV.str (((List.map tyV.elem t2).getD k.toNat undef).cells.getD 2 undef).toS,
        AV.lst 2 (((List.map tyV.elem t2).getD k.toNat undef).cells.getD 3 undef).toL Tl.open_]]))))
              (T.br (askQ (clLL (27 : FuncId) tyI).2
  [AV.lst (2 : Nat) (((List.map tyV.elem s2).getD k.toNat undef).cells.getD (3 : Nat) undef).toL Tl.open_,
    AV.lst (2 : Nat) (((List.map tyV.elem t2).getD k.toNat undef).cells.getD (3 : Nat) undef).toL Tl.open_])
                (T.br (!ask
    (AV.lst (2 : Nat) (((List.map tyV.elem s2).getD k.toNat undef).cells.getD (3 : Nat) undef).toL Tl.open_ =
      AV.lst (2 : Nat) (((List.map tyV.elem t2).getD k.toNat undef).cells.getD (3 : Nat) undef).toL Tl.open_))
                  (T.leaf ((X.ret,
  [AV.ptr 0 0, AV.ptr 1 0, AV.bool false, AV.int IntKind.i64 i, AV.ptr 2 0, AV.ptr 3 0, AV.int IntKind.i64 k],
  [Blk.var [AV.lst 5 (List.map tyK.elem a0) Tl.open_, AV.lst 3 (List.map tyT.elem a1) Tl.open_],
    Blk.var [AV.lst 5 (List.map tyK.elem b0) Tl.open_, AV.lst 3 (List.map tyT.elem b1) Tl.open_],
    Blk.var [AV.str s0, AV.lst 5 (List.map tyC.elem s1) Tl.open_, AV.lst 4 (List.map tyV.elem s2) Tl.open_],
    Blk.var [AV.str t0, AV.lst 5 (List.map tyC.elem t1) Tl.open_, AV.lst 4 (List.map tyV.elem t2) Tl.open_],
    Blk.var
      [AV.str (((List.map tyV.elem s2).getD k.toNat undef).cells.getD 0 undef).toS,
        AV.int IntKind.i64 (((List.map tyV.elem s2).getD k.toNat undef).cells.getD 1 undef).toI,
        AV.str (((List.map tyV.elem s2).getD k.toNat undef).cells.getD 2 undef).toS,
        AV.lst 2 (((List.map tyV.elem s2).getD k.toNat undef).cells.getD 3 undef).toL Tl.open_],
    Blk.var
      [AV.str (((List.map tyV.elem t2).getD k.toNat undef).cells.getD 0 undef).toS,
        AV.int IntKind.i64 (((List.map tyV.elem t2).getD k.toNat undef).cells.getD 1 undef).toI,
        AV.str (((List.map tyV.elem t2).getD k.toNat undef).cells.getD 2 undef).toS,
        AV.lst 2 (((List.map tyV.elem t2).getD k.toNat undef).cells.getD 3 undef).toL Tl.open_]])))
                  (T.leaf ((X.normal,
  [AV.ptr 0 0, AV.ptr 1 0, AV.fsl 0 [], AV.int IntKind.i64 i, AV.ptr 2 0, AV.ptr 3 0,
    AV.int IntKind.i64 (IntKind.i64.wrap (k + 1))],
  [Blk.var [AV.lst 5 (List.map tyK.elem a0) Tl.open_, AV.lst 3 (List.map tyT.elem a1) Tl.open_],
    Blk.var [AV.lst 5 (List.map tyK.elem b0) Tl.open_, AV.lst 3 (List.map tyT.elem b1) Tl.open_],
    Blk.var [AV.str s0, AV.lst 5 (List.map tyC.elem s1) Tl.open_, AV.lst 4 (List.map tyV.elem s2) Tl.open_],
    Blk.var [AV.str t0, AV.lst 5 (List.map tyC.elem t1) Tl.open_, AV.lst 4 (List.map tyV.elem t2) Tl.open_],
    Blk.var
      [AV.str (((List.map tyV.elem s2).getD k.toNat undef).cells.getD 0 undef).toS,
        AV.int IntKind.i64 (((List.map tyV.elem s2).getD k.toNat undef).cells.getD 1 undef).toI,
        AV.str (((List.map tyV.elem s2).getD k.toNat undef).cells.getD 2 undef).toS,
        AV.lst 2 (((List.map tyV.elem s2).getD k.toNat undef).cells.getD 3 undef).toL Tl.open_],
    Blk.var
      [AV.str (((List.map tyV.elem t2).getD k.toNat undef).cells.getD 0 undef).toS,
        AV.int IntKind.i64 (((List.map tyV.elem t2).getD k.toNat undef).cells.getD 1 undef).toI,
        AV.str (((List.map tyV.elem t2).getD k.toNat undef).cells.getD 2 undef).toS,
        AV.lst 2 (((List.map tyV.elem t2).getD k.toNat undef).cells.getD 3 undef).toL Tl.open_]]))))
                T.fail))))
        T.fail)
      T.fail)
    (T.leaf ((X.exit 4,
  [AV.ptr 0 0, AV.ptr 1 0, AV.fsl 0 [], AV.int IntKind.i64 i, AV.ptr 2 0, AV.ptr 3 0, AV.int IntKind.i64 k],
  [Blk.var [AV.lst 5 (List.map tyK.elem a0) Tl.open_, AV.lst 3 (List.map tyT.elem a1) Tl.open_],
    Blk.var [AV.lst 5 (List.map tyK.elem b0) Tl.open_, AV.lst 3 (List.map tyT.elem b1) Tl.open_],
    Blk.var [AV.str s0, AV.lst 5 (List.map tyC.elem s1) Tl.open_, AV.lst 4 (List.map tyV.elem s2) Tl.open_],
    Blk.var [AV.str t0, AV.lst 5 (List.map tyC.elem t1) Tl.open_, AV.lst 4 (List.map tyV.elem t2) Tl.open_]])))) := by kernel_rfl
theorem p8on (a0 : List tyK.I) (a1 : List tyT.I) (b0 : List tyK.I) (b1 : List tyT.I) (s0 : ByteArray) (s1 : List tyC.I) (s2 : List tyV.I) (t0 : ByteArray) (t1 : List tyC.I) (t2 : List tyV.I) (i : Int) : obsK (XC 8 [19,27,32,46,51,69,77,85,90,108,115,122,129] [clEE 25 tyK, clLL 26 tyC, clLL 27 tyI]) (kAt [1,1,1,0,1,0,0,1,0,0,1,1,1,1] (st8i i 0) [.var [encL tyK a0, encL tyT a1], .var [encL tyK b0, encL tyT b1], .var [.str s0, encL tyC s1, encL tyV s2], .var [.str t0, encL tyC t1, encL tyV t2]] .normal [(2, .ptr 0 0), (3, .ptr 1 0), (6, .int .i64 i)] [.var [encL tyK a0, encL tyT a1], .var [encL tyK b0, encL tyT b1], .var [.str s0, encL tyC s1, encL tyV s2], .var [.str t0, encL tyC t1, encL tyV t2]]) 130 (sub (bodyOf Tryz.f8) [1,1,1,0,1,0,0]) [1,1,1,0,1,0,0] (frm [(2, .ptr 0 0), (3, .ptr 1 0), (6, .int .i64 i)]) [.var [encL tyK a0, encL tyT a1], .var [encL tyK b0, encL tyT b1]] [2,3,4,6] =
  (T.br (decide (i < (↑(List.map tyT.elem a1).length : Int)))
    (T.br (decide ((0 : Int) ≤ i) && decide (i < (↑(List.map tyT.elem a1).length : Int)) &&
  fitsC Tryz.prog (44 : Nat) ((List.map tyT.elem a1).getD i.toNat undef))
      (T.br (decide ((0 : Int) ≤ i) && decide (i < (↑(List.map tyT.elem b1).length : Int)) &&
  fitsC Tryz.prog (44 : Nat) ((List.map tyT.elem b1).getD i.toNat undef))
        (T.br (!decide
    ((((List.map tyT.elem a1).getD i.toNat undef).cells.getD (0 : Nat) undef).toS =
      (((List.map tyT.elem b1).getD i.toNat undef).cells.getD (0 : Nat) undef).toS))
          (T.br true
            (T.br true
              (T.leaf ((X.ret, [AV.ptr 0 0, AV.ptr 1 0, AV.bool false, AV.int IntKind.i64 i],
  [Blk.var [AV.lst 5 (List.map tyK.elem a0) Tl.open_, AV.lst 3 (List.map tyT.elem a1) Tl.open_],
    Blk.var [AV.lst 5 (List.map tyK.elem b0) Tl.open_, AV.lst 3 (List.map tyT.elem b1) Tl.open_],
    Blk.var
      [AV.str (((List.map tyT.elem a1).getD i.toNat undef).cells.getD 0 undef).toS,
        AV.lst 5 (((List.map tyT.elem a1).getD i.toNat undef).cells.getD 1 undef).toL Tl.open_,
        AV.lst 4 (((List.map tyT.elem a1).getD i.toNat undef).cells.getD 2 undef).toL Tl.open_],
    Blk.var
      [AV.str (((List.map tyT.elem b1).getD i.toNat undef).cells.getD 0 undef).toS,
        AV.lst 5 (((List.map tyT.elem b1).getD i.toNat undef).cells.getD 1 undef).toL Tl.open_,
        AV.lst 4 (((List.map tyT.elem b1).getD i.toNat undef).cells.getD 2 undef).toL Tl.open_]])))
              (T.br (askS
  [AV.ptr (0 : Nat) (0 : Nat), AV.ptr (1 : Nat) (0 : Nat), AV.int IntKind.i64 i, AV.ptr (2 : Nat) (0 : Nat),
    AV.ptr (3 : Nat) (0 : Nat), AV.int IntKind.i64 (0 : Int)]
  [AV.ptr (0 : Nat) (0 : Nat), AV.ptr (1 : Nat) (0 : Nat), AV.int IntKind.i64 i, AV.ptr (2 : Nat) (0 : Nat),
    AV.ptr (3 : Nat) (0 : Nat), AV.int IntKind.i64 (↑(0 : Nat) : Int)]
  [Blk.var [AV.lst (5 : Nat) (List.map tyK.elem a0) Tl.open_, AV.lst (3 : Nat) (List.map tyT.elem a1) Tl.open_],
    Blk.var [AV.lst (5 : Nat) (List.map tyK.elem b0) Tl.open_, AV.lst (3 : Nat) (List.map tyT.elem b1) Tl.open_],
    Blk.var
      [AV.str (((List.map tyT.elem a1).getD i.toNat undef).cells.getD (0 : Nat) undef).toS,
        AV.lst (5 : Nat) (((List.map tyT.elem a1).getD i.toNat undef).cells.getD (1 : Nat) undef).toL Tl.open_,
        AV.lst (4 : Nat) (((List.map tyT.elem a1).getD i.toNat undef).cells.getD (2 : Nat) undef).toL Tl.open_],
    Blk.var
      [AV.str (((List.map tyT.elem b1).getD i.toNat undef).cells.getD (0 : Nat) undef).toS,
        AV.lst (5 : Nat) (((List.map tyT.elem b1).getD i.toNat undef).cells.getD (1 : Nat) undef).toL Tl.open_,
        AV.lst (4 : Nat) (((List.map tyT.elem b1).getD i.toNat undef).cells.getD (2 : Nat) undef).toL Tl.open_]]
  [Blk.var [AV.lst (5 : Nat) (List.map tyK.elem a0) Tl.open_, AV.lst (3 : Nat) (List.map tyT.elem a1) Tl.open_],
    Blk.var [AV.lst (5 : Nat) (List.map tyK.elem b0) Tl.open_, AV.lst (3 : Nat) (List.map tyT.elem b1) Tl.open_],
    Blk.var
      [AV.str s0, AV.lst (5 : Nat) (List.map tyC.elem s1) Tl.open_, AV.lst (4 : Nat) (List.map tyV.elem s2) Tl.open_],
    Blk.var
      [AV.str t0, AV.lst (5 : Nat) (List.map tyC.elem t1) Tl.open_, AV.lst (4 : Nat) (List.map tyV.elem t2) Tl.open_]])
                (T.leaf ((X.normal,
  [AV.ptr 0 0, AV.ptr 1 0, AV.fsl 0 [], AV.int IntKind.i64 (IntKind.i64.wrap (i + 1))],
  [Blk.var [AV.lst 5 (List.map tyK.elem a0) Tl.open_, AV.lst 3 (List.map tyT.elem a1) Tl.open_],
    Blk.var [AV.lst 5 (List.map tyK.elem b0) Tl.open_, AV.lst 3 (List.map tyT.elem b1) Tl.open_],
    Blk.var [AV.str s0, AV.lst 5 (List.map tyC.elem s1) Tl.open_, AV.lst 4 (List.map tyV.elem s2) Tl.open_],
    Blk.var [AV.str t0, AV.lst 5 (List.map tyC.elem t1) Tl.open_, AV.lst 4 (List.map tyV.elem t2) Tl.open_]])))
                T.fail))
            (T.br (!decide
    ((↑(((List.map tyT.elem a1).getD i.toNat undef).cells.getD (2 : Nat) undef).toL.length : Int) =
      (↑(((List.map tyT.elem b1).getD i.toNat undef).cells.getD (2 : Nat) undef).toL.length : Int)))
              (T.leaf ((X.ret, [AV.ptr 0 0, AV.ptr 1 0, AV.bool false, AV.int IntKind.i64 i],
  [Blk.var [AV.lst 5 (List.map tyK.elem a0) Tl.open_, AV.lst 3 (List.map tyT.elem a1) Tl.open_],
    Blk.var [AV.lst 5 (List.map tyK.elem b0) Tl.open_, AV.lst 3 (List.map tyT.elem b1) Tl.open_],
    Blk.var
      [AV.str (((List.map tyT.elem a1).getD i.toNat undef).cells.getD 0 undef).toS,
        AV.lst 5 (((List.map tyT.elem a1).getD i.toNat undef).cells.getD 1 undef).toL Tl.open_,
        AV.lst 4 (((List.map tyT.elem a1).getD i.toNat undef).cells.getD 2 undef).toL Tl.open_],
    Blk.var
      [AV.str (((List.map tyT.elem b1).getD i.toNat undef).cells.getD 0 undef).toS,
        AV.lst 5 (((List.map tyT.elem b1).getD i.toNat undef).cells.getD 1 undef).toL Tl.open_,
        AV.lst 4 (((List.map tyT.elem b1).getD i.toNat undef).cells.getD 2 undef).toL Tl.open_]])))
              (T.br (askS
  [AV.ptr (0 : Nat) (0 : Nat), AV.ptr (1 : Nat) (0 : Nat), AV.int IntKind.i64 i, AV.ptr (2 : Nat) (0 : Nat),
    AV.ptr (3 : Nat) (0 : Nat), AV.int IntKind.i64 (0 : Int)]
  [AV.ptr (0 : Nat) (0 : Nat), AV.ptr (1 : Nat) (0 : Nat), AV.int IntKind.i64 i, AV.ptr (2 : Nat) (0 : Nat),
    AV.ptr (3 : Nat) (0 : Nat), AV.int IntKind.i64 (↑(0 : Nat) : Int)]
  [Blk.var [AV.lst (5 : Nat) (List.map tyK.elem a0) Tl.open_, AV.lst (3 : Nat) (List.map tyT.elem a1) Tl.open_],
    Blk.var [AV.lst (5 : Nat) (List.map tyK.elem b0) Tl.open_, AV.lst (3 : Nat) (List.map tyT.elem b1) Tl.open_],
    Blk.var
      [AV.str (((List.map tyT.elem a1).getD i.toNat undef).cells.getD (0 : Nat) undef).toS,
        AV.lst (5 : Nat) (((List.map tyT.elem a1).getD i.toNat undef).cells.getD (1 : Nat) undef).toL Tl.open_,
        AV.lst (4 : Nat) (((List.map tyT.elem a1).getD i.toNat undef).cells.getD (2 : Nat) undef).toL Tl.open_],
    Blk.var
      [AV.str (((List.map tyT.elem b1).getD i.toNat undef).cells.getD (0 : Nat) undef).toS,
        AV.lst (5 : Nat) (((List.map tyT.elem b1).getD i.toNat undef).cells.getD (1 : Nat) undef).toL Tl.open_,
        AV.lst (4 : Nat) (((List.map tyT.elem b1).getD i.toNat undef).cells.getD (2 : Nat) undef).toL Tl.open_]]
  [Blk.var [AV.lst (5 : Nat) (List.map tyK.elem a0) Tl.open_, AV.lst (3 : Nat) (List.map tyT.elem a1) Tl.open_],
    Blk.var [AV.lst (5 : Nat) (List.map tyK.elem b0) Tl.open_, AV.lst (3 : Nat) (List.map tyT.elem b1) Tl.open_],
    Blk.var
      [AV.str s0, AV.lst (5 : Nat) (List.map tyC.elem s1) Tl.open_, AV.lst (4 : Nat) (List.map tyV.elem s2) Tl.open_],
    Blk.var
      [AV.str t0, AV.lst (5 : Nat) (List.map tyC.elem t1) Tl.open_, AV.lst (4 : Nat) (List.map tyV.elem t2) Tl.open_]])
                (T.leaf ((X.normal,
  [AV.ptr 0 0, AV.ptr 1 0, AV.fsl 0 [], AV.int IntKind.i64 (IntKind.i64.wrap (i + 1))],
  [Blk.var [AV.lst 5 (List.map tyK.elem a0) Tl.open_, AV.lst 3 (List.map tyT.elem a1) Tl.open_],
    Blk.var [AV.lst 5 (List.map tyK.elem b0) Tl.open_, AV.lst 3 (List.map tyT.elem b1) Tl.open_],
    Blk.var [AV.str s0, AV.lst 5 (List.map tyC.elem s1) Tl.open_, AV.lst 4 (List.map tyV.elem s2) Tl.open_],
    Blk.var [AV.str t0, AV.lst 5 (List.map tyC.elem t1) Tl.open_, AV.lst 4 (List.map tyV.elem t2) Tl.open_]])))
                T.fail)))
          (T.br (askQ (clLL (26 : FuncId) tyC).2
  [AV.lst (5 : Nat) (((List.map tyT.elem a1).getD i.toNat undef).cells.getD (1 : Nat) undef).toL Tl.open_,
    AV.lst (5 : Nat) (((List.map tyT.elem b1).getD i.toNat undef).cells.getD (1 : Nat) undef).toL Tl.open_])
            (T.br (!ask
    (AV.lst (5 : Nat) (((List.map tyT.elem a1).getD i.toNat undef).cells.getD (1 : Nat) undef).toL Tl.open_ =
      AV.lst (5 : Nat) (((List.map tyT.elem b1).getD i.toNat undef).cells.getD (1 : Nat) undef).toL Tl.open_))
              (T.br true
                (T.leaf ((X.ret, [AV.ptr 0 0, AV.ptr 1 0, AV.bool false, AV.int IntKind.i64 i],
  [Blk.var [AV.lst 5 (List.map tyK.elem a0) Tl.open_, AV.lst 3 (List.map tyT.elem a1) Tl.open_],
    Blk.var [AV.lst 5 (List.map tyK.elem b0) Tl.open_, AV.lst 3 (List.map tyT.elem b1) Tl.open_],
    Blk.var
      [AV.str (((List.map tyT.elem a1).getD i.toNat undef).cells.getD 0 undef).toS,
        AV.lst 5 (((List.map tyT.elem a1).getD i.toNat undef).cells.getD 1 undef).toL Tl.open_,
        AV.lst 4 (((List.map tyT.elem a1).getD i.toNat undef).cells.getD 2 undef).toL Tl.open_],
    Blk.var
      [AV.str (((List.map tyT.elem b1).getD i.toNat undef).cells.getD 0 undef).toS,
        AV.lst 5 (((List.map tyT.elem b1).getD i.toNat undef).cells.getD 1 undef).toL Tl.open_,
        AV.lst 4 (((List.map tyT.elem b1).getD i.toNat undef).cells.getD 2 undef).toL Tl.open_]])))
                (T.br (askS
  [AV.ptr (0 : Nat) (0 : Nat), AV.ptr (1 : Nat) (0 : Nat), AV.int IntKind.i64 i, AV.ptr (2 : Nat) (0 : Nat),
    AV.ptr (3 : Nat) (0 : Nat), AV.int IntKind.i64 (0 : Int)]
  [AV.ptr (0 : Nat) (0 : Nat), AV.ptr (1 : Nat) (0 : Nat), AV.int IntKind.i64 i, AV.ptr (2 : Nat) (0 : Nat),
    AV.ptr (3 : Nat) (0 : Nat), AV.int IntKind.i64 (↑(0 : Nat) : Int)]
  [Blk.var [AV.lst (5 : Nat) (List.map tyK.elem a0) Tl.open_, AV.lst (3 : Nat) (List.map tyT.elem a1) Tl.open_],
    Blk.var [AV.lst (5 : Nat) (List.map tyK.elem b0) Tl.open_, AV.lst (3 : Nat) (List.map tyT.elem b1) Tl.open_],
    Blk.var
      [AV.str (((List.map tyT.elem a1).getD i.toNat undef).cells.getD (0 : Nat) undef).toS,
        AV.lst (5 : Nat) (((List.map tyT.elem a1).getD i.toNat undef).cells.getD (1 : Nat) undef).toL Tl.open_,
        AV.lst (4 : Nat) (((List.map tyT.elem a1).getD i.toNat undef).cells.getD (2 : Nat) undef).toL Tl.open_],
    Blk.var
      [AV.str (((List.map tyT.elem b1).getD i.toNat undef).cells.getD (0 : Nat) undef).toS,
        AV.lst (5 : Nat) (((List.map tyT.elem b1).getD i.toNat undef).cells.getD (1 : Nat) undef).toL Tl.open_,
        AV.lst (4 : Nat) (((List.map tyT.elem b1).getD i.toNat undef).cells.getD (2 : Nat) undef).toL Tl.open_]]
  [Blk.var [AV.lst (5 : Nat) (List.map tyK.elem a0) Tl.open_, AV.lst (3 : Nat) (List.map tyT.elem a1) Tl.open_],
    Blk.var [AV.lst (5 : Nat) (List.map tyK.elem b0) Tl.open_, AV.lst (3 : Nat) (List.map tyT.elem b1) Tl.open_],
    Blk.var
      [AV.str s0, AV.lst (5 : Nat) (List.map tyC.elem s1) Tl.open_, AV.lst (4 : Nat) (List.map tyV.elem s2) Tl.open_],
    Blk.var
      [AV.str t0, AV.lst (5 : Nat) (List.map tyC.elem t1) Tl.open_, AV.lst (4 : Nat) (List.map tyV.elem t2) Tl.open_]])
                  (T.leaf ((X.normal,
  [AV.ptr 0 0, AV.ptr 1 0, AV.fsl 0 [], AV.int IntKind.i64 (IntKind.i64.wrap (i + 1))],
  [Blk.var [AV.lst 5 (List.map tyK.elem a0) Tl.open_, AV.lst 3 (List.map tyT.elem a1) Tl.open_],
    Blk.var [AV.lst 5 (List.map tyK.elem b0) Tl.open_, AV.lst 3 (List.map tyT.elem b1) Tl.open_],
    Blk.var [AV.str s0, AV.lst 5 (List.map tyC.elem s1) Tl.open_, AV.lst 4 (List.map tyV.elem s2) Tl.open_],
    Blk.var [AV.str t0, AV.lst 5 (List.map tyC.elem t1) Tl.open_, AV.lst 4 (List.map tyV.elem t2) Tl.open_]])))
                  T.fail))
              (T.br (!decide
    ((↑(((List.map tyT.elem a1).getD i.toNat undef).cells.getD (2 : Nat) undef).toL.length : Int) =
      (↑(((List.map tyT.elem b1).getD i.toNat undef).cells.getD (2 : Nat) undef).toL.length : Int)))
                (T.leaf ((X.ret, [AV.ptr 0 0, AV.ptr 1 0, AV.bool false, AV.int IntKind.i64 i],
  [Blk.var [AV.lst 5 (List.map tyK.elem a0) Tl.open_, AV.lst 3 (List.map tyT.elem a1) Tl.open_],
    Blk.var [AV.lst 5 (List.map tyK.elem b0) Tl.open_, AV.lst 3 (List.map tyT.elem b1) Tl.open_],
    Blk.var
      [AV.str (((List.map tyT.elem a1).getD i.toNat undef).cells.getD 0 undef).toS,
        AV.lst 5 (((List.map tyT.elem a1).getD i.toNat undef).cells.getD 1 undef).toL Tl.open_,
        AV.lst 4 (((List.map tyT.elem a1).getD i.toNat undef).cells.getD 2 undef).toL Tl.open_],
    Blk.var
      [AV.str (((List.map tyT.elem b1).getD i.toNat undef).cells.getD 0 undef).toS,
        AV.lst 5 (((List.map tyT.elem b1).getD i.toNat undef).cells.getD 1 undef).toL Tl.open_,
        AV.lst 4 (((List.map tyT.elem b1).getD i.toNat undef).cells.getD 2 undef).toL Tl.open_]])))
                (T.br (askS
  [AV.ptr (0 : Nat) (0 : Nat), AV.ptr (1 : Nat) (0 : Nat), AV.int IntKind.i64 i, AV.ptr (2 : Nat) (0 : Nat),
    AV.ptr (3 : Nat) (0 : Nat), AV.int IntKind.i64 (0 : Int)]
  [AV.ptr (0 : Nat) (0 : Nat), AV.ptr (1 : Nat) (0 : Nat), AV.int IntKind.i64 i, AV.ptr (2 : Nat) (0 : Nat),
    AV.ptr (3 : Nat) (0 : Nat), AV.int IntKind.i64 (↑(0 : Nat) : Int)]
  [Blk.var [AV.lst (5 : Nat) (List.map tyK.elem a0) Tl.open_, AV.lst (3 : Nat) (List.map tyT.elem a1) Tl.open_],
    Blk.var [AV.lst (5 : Nat) (List.map tyK.elem b0) Tl.open_, AV.lst (3 : Nat) (List.map tyT.elem b1) Tl.open_],
    Blk.var
      [AV.str (((List.map tyT.elem a1).getD i.toNat undef).cells.getD (0 : Nat) undef).toS,
        AV.lst (5 : Nat) (((List.map tyT.elem a1).getD i.toNat undef).cells.getD (1 : Nat) undef).toL Tl.open_,
        AV.lst (4 : Nat) (((List.map tyT.elem a1).getD i.toNat undef).cells.getD (2 : Nat) undef).toL Tl.open_],
    Blk.var
      [AV.str (((List.map tyT.elem b1).getD i.toNat undef).cells.getD (0 : Nat) undef).toS,
        AV.lst (5 : Nat) (((List.map tyT.elem b1).getD i.toNat undef).cells.getD (1 : Nat) undef).toL Tl.open_,
        AV.lst (4 : Nat) (((List.map tyT.elem b1).getD i.toNat undef).cells.getD (2 : Nat) undef).toL Tl.open_]]
  [Blk.var [AV.lst (5 : Nat) (List.map tyK.elem a0) Tl.open_, AV.lst (3 : Nat) (List.map tyT.elem a1) Tl.open_],
    Blk.var [AV.lst (5 : Nat) (List.map tyK.elem b0) Tl.open_, AV.lst (3 : Nat) (List.map tyT.elem b1) Tl.open_],
    Blk.var
      [AV.str s0, AV.lst (5 : Nat) (List.map tyC.elem s1) Tl.open_, AV.lst (4 : Nat) (List.map tyV.elem s2) Tl.open_],
    Blk.var
      [AV.str t0, AV.lst (5 : Nat) (List.map tyC.elem t1) Tl.open_, AV.lst (4 : Nat) (List.map tyV.elem t2) Tl.open_]])
                  (T.leaf ((X.normal,
  [AV.ptr 0 0, AV.ptr 1 0, AV.fsl 0 [], AV.int IntKind.i64 (IntKind.i64.wrap (i + 1))],
  [Blk.var [AV.lst 5 (List.map tyK.elem a0) Tl.open_, AV.lst 3 (List.map tyT.elem a1) Tl.open_],
    Blk.var [AV.lst 5 (List.map tyK.elem b0) Tl.open_, AV.lst 3 (List.map tyT.elem b1) Tl.open_],
    Blk.var [AV.str s0, AV.lst 5 (List.map tyC.elem s1) Tl.open_, AV.lst 4 (List.map tyV.elem s2) Tl.open_],
    Blk.var [AV.str t0, AV.lst 5 (List.map tyC.elem t1) Tl.open_, AV.lst 4 (List.map tyV.elem t2) Tl.open_]])))
                  T.fail)))
            T.fail))
        T.fail)
      T.fail)
    (T.leaf ((X.exit 2, [AV.ptr 0 0, AV.ptr 1 0, AV.fsl 0 [], AV.int IntKind.i64 i],
  [Blk.var [AV.lst 5 (List.map tyK.elem a0) Tl.open_, AV.lst 3 (List.map tyT.elem a1) Tl.open_],
    Blk.var [AV.lst 5 (List.map tyK.elem b0) Tl.open_, AV.lst 3 (List.map tyT.elem b1) Tl.open_]])))) := by kernel_rfl
theorem p8or (a0 : List tyK.I) (a1 : List tyT.I) (b0 : List tyK.I) (b1 : List tyT.I) (s0 : ByteArray) (s1 : List tyC.I) (s2 : List tyV.I) (t0 : ByteArray) (t1 : List tyC.I) (t2 : List tyV.I) (i : Int) : obsK (XC 8 [19,27,32,46,51,69,77,85,90,108,115,122,129] [clEE 25 tyK, clLL 26 tyC, clLL 27 tyI]) (kAt [1,1,1,0,1,0,0,1,0,0,1,1,1,1] (st8i i 0) [.var [encL tyK a0, encL tyT a1], .var [encL tyK b0, encL tyT b1], .var [.str s0, encL tyC s1, encL tyV s2], .var [.str t0, encL tyC t1, encL tyV t2]] .ret [(4, .bool false)] [.var [encL tyK a0, encL tyT a1], .var [encL tyK b0, encL tyT b1], .var [.str s0, encL tyC s1, encL tyV s2], .var [.str t0, encL tyC t1, encL tyV t2]]) 130 (sub (bodyOf Tryz.f8) [1,1,1,0,1,0,0]) [1,1,1,0,1,0,0] (frm [(2, .ptr 0 0), (3, .ptr 1 0), (6, .int .i64 i)]) [.var [encL tyK a0, encL tyT a1], .var [encL tyK b0, encL tyT b1]] [2,3,4,6] =
  (T.br (decide (i < (↑(List.map tyT.elem a1).length : Int)))
    (T.br (decide ((0 : Int) ≤ i) && decide (i < (↑(List.map tyT.elem a1).length : Int)) &&
  fitsC Tryz.prog (44 : Nat) ((List.map tyT.elem a1).getD i.toNat undef))
      (T.br (decide ((0 : Int) ≤ i) && decide (i < (↑(List.map tyT.elem b1).length : Int)) &&
  fitsC Tryz.prog (44 : Nat) ((List.map tyT.elem b1).getD i.toNat undef))
        (T.br (!decide
    ((((List.map tyT.elem a1).getD i.toNat undef).cells.getD (0 : Nat) undef).toS =
      (((List.map tyT.elem b1).getD i.toNat undef).cells.getD (0 : Nat) undef).toS))
          (T.br true
            (T.br true
              (T.leaf ((X.ret, [AV.ptr 0 0, AV.ptr 1 0, AV.bool false, AV.int IntKind.i64 i],
  [Blk.var [AV.lst 5 (List.map tyK.elem a0) Tl.open_, AV.lst 3 (List.map tyT.elem a1) Tl.open_],
    Blk.var [AV.lst 5 (List.map tyK.elem b0) Tl.open_, AV.lst 3 (List.map tyT.elem b1) Tl.open_],
    Blk.var
      [AV.str (((List.map tyT.elem a1).getD i.toNat undef).cells.getD 0 undef).toS,
        AV.lst 5 (((List.map tyT.elem a1).getD i.toNat undef).cells.getD 1 undef).toL Tl.open_,
        AV.lst 4 (((List.map tyT.elem a1).getD i.toNat undef).cells.getD 2 undef).toL Tl.open_],
    Blk.var
      [AV.str (((List.map tyT.elem b1).getD i.toNat undef).cells.getD 0 undef).toS,
        AV.lst 5 (((List.map tyT.elem b1).getD i.toNat undef).cells.getD 1 undef).toL Tl.open_,
        AV.lst 4 (((List.map tyT.elem b1).getD i.toNat undef).cells.getD 2 undef).toL Tl.open_]])))
              (T.br (askS
  [AV.ptr (0 : Nat) (0 : Nat), AV.ptr (1 : Nat) (0 : Nat), AV.int IntKind.i64 i, AV.ptr (2 : Nat) (0 : Nat),
    AV.ptr (3 : Nat) (0 : Nat), AV.int IntKind.i64 (0 : Int)]
  [AV.ptr (0 : Nat) (0 : Nat), AV.ptr (1 : Nat) (0 : Nat), AV.int IntKind.i64 i, AV.ptr (2 : Nat) (0 : Nat),
    AV.ptr (3 : Nat) (0 : Nat), AV.int IntKind.i64 (↑(0 : Nat) : Int)]
  [Blk.var [AV.lst (5 : Nat) (List.map tyK.elem a0) Tl.open_, AV.lst (3 : Nat) (List.map tyT.elem a1) Tl.open_],
    Blk.var [AV.lst (5 : Nat) (List.map tyK.elem b0) Tl.open_, AV.lst (3 : Nat) (List.map tyT.elem b1) Tl.open_],
    Blk.var
      [AV.str (((List.map tyT.elem a1).getD i.toNat undef).cells.getD (0 : Nat) undef).toS,
        AV.lst (5 : Nat) (((List.map tyT.elem a1).getD i.toNat undef).cells.getD (1 : Nat) undef).toL Tl.open_,
        AV.lst (4 : Nat) (((List.map tyT.elem a1).getD i.toNat undef).cells.getD (2 : Nat) undef).toL Tl.open_],
    Blk.var
      [AV.str (((List.map tyT.elem b1).getD i.toNat undef).cells.getD (0 : Nat) undef).toS,
        AV.lst (5 : Nat) (((List.map tyT.elem b1).getD i.toNat undef).cells.getD (1 : Nat) undef).toL Tl.open_,
        AV.lst (4 : Nat) (((List.map tyT.elem b1).getD i.toNat undef).cells.getD (2 : Nat) undef).toL Tl.open_]]
  [Blk.var [AV.lst (5 : Nat) (List.map tyK.elem a0) Tl.open_, AV.lst (3 : Nat) (List.map tyT.elem a1) Tl.open_],
    Blk.var [AV.lst (5 : Nat) (List.map tyK.elem b0) Tl.open_, AV.lst (3 : Nat) (List.map tyT.elem b1) Tl.open_],
    Blk.var
      [AV.str s0, AV.lst (5 : Nat) (List.map tyC.elem s1) Tl.open_, AV.lst (4 : Nat) (List.map tyV.elem s2) Tl.open_],
    Blk.var
      [AV.str t0, AV.lst (5 : Nat) (List.map tyC.elem t1) Tl.open_, AV.lst (4 : Nat) (List.map tyV.elem t2) Tl.open_]])
                (T.leaf ((X.ret, [AV.fsl 0 [], AV.fsl 0 [], AV.bool false, AV.fsl 0 []],
  [Blk.var [AV.lst 5 (List.map tyK.elem a0) Tl.open_, AV.lst 3 (List.map tyT.elem a1) Tl.open_],
    Blk.var [AV.lst 5 (List.map tyK.elem b0) Tl.open_, AV.lst 3 (List.map tyT.elem b1) Tl.open_],
    Blk.var [AV.str s0, AV.lst 5 (List.map tyC.elem s1) Tl.open_, AV.lst 4 (List.map tyV.elem s2) Tl.open_],
    Blk.var [AV.str t0, AV.lst 5 (List.map tyC.elem t1) Tl.open_, AV.lst 4 (List.map tyV.elem t2) Tl.open_]])))
                T.fail))
            (T.br (!decide
    ((↑(((List.map tyT.elem a1).getD i.toNat undef).cells.getD (2 : Nat) undef).toL.length : Int) =
      (↑(((List.map tyT.elem b1).getD i.toNat undef).cells.getD (2 : Nat) undef).toL.length : Int)))
              (T.leaf ((X.ret, [AV.ptr 0 0, AV.ptr 1 0, AV.bool false, AV.int IntKind.i64 i],
  [Blk.var [AV.lst 5 (List.map tyK.elem a0) Tl.open_, AV.lst 3 (List.map tyT.elem a1) Tl.open_],
    Blk.var [AV.lst 5 (List.map tyK.elem b0) Tl.open_, AV.lst 3 (List.map tyT.elem b1) Tl.open_],
    Blk.var
      [AV.str (((List.map tyT.elem a1).getD i.toNat undef).cells.getD 0 undef).toS,
        AV.lst 5 (((List.map tyT.elem a1).getD i.toNat undef).cells.getD 1 undef).toL Tl.open_,
        AV.lst 4 (((List.map tyT.elem a1).getD i.toNat undef).cells.getD 2 undef).toL Tl.open_],
    Blk.var
      [AV.str (((List.map tyT.elem b1).getD i.toNat undef).cells.getD 0 undef).toS,
        AV.lst 5 (((List.map tyT.elem b1).getD i.toNat undef).cells.getD 1 undef).toL Tl.open_,
        AV.lst 4 (((List.map tyT.elem b1).getD i.toNat undef).cells.getD 2 undef).toL Tl.open_]])))
              (T.br (askS
  [AV.ptr (0 : Nat) (0 : Nat), AV.ptr (1 : Nat) (0 : Nat), AV.int IntKind.i64 i, AV.ptr (2 : Nat) (0 : Nat),
    AV.ptr (3 : Nat) (0 : Nat), AV.int IntKind.i64 (0 : Int)]
  [AV.ptr (0 : Nat) (0 : Nat), AV.ptr (1 : Nat) (0 : Nat), AV.int IntKind.i64 i, AV.ptr (2 : Nat) (0 : Nat),
    AV.ptr (3 : Nat) (0 : Nat), AV.int IntKind.i64 (↑(0 : Nat) : Int)]
  [Blk.var [AV.lst (5 : Nat) (List.map tyK.elem a0) Tl.open_, AV.lst (3 : Nat) (List.map tyT.elem a1) Tl.open_],
    Blk.var [AV.lst (5 : Nat) (List.map tyK.elem b0) Tl.open_, AV.lst (3 : Nat) (List.map tyT.elem b1) Tl.open_],
    Blk.var
      [AV.str (((List.map tyT.elem a1).getD i.toNat undef).cells.getD (0 : Nat) undef).toS,
        AV.lst (5 : Nat) (((List.map tyT.elem a1).getD i.toNat undef).cells.getD (1 : Nat) undef).toL Tl.open_,
        AV.lst (4 : Nat) (((List.map tyT.elem a1).getD i.toNat undef).cells.getD (2 : Nat) undef).toL Tl.open_],
    Blk.var
      [AV.str (((List.map tyT.elem b1).getD i.toNat undef).cells.getD (0 : Nat) undef).toS,
        AV.lst (5 : Nat) (((List.map tyT.elem b1).getD i.toNat undef).cells.getD (1 : Nat) undef).toL Tl.open_,
        AV.lst (4 : Nat) (((List.map tyT.elem b1).getD i.toNat undef).cells.getD (2 : Nat) undef).toL Tl.open_]]
  [Blk.var [AV.lst (5 : Nat) (List.map tyK.elem a0) Tl.open_, AV.lst (3 : Nat) (List.map tyT.elem a1) Tl.open_],
    Blk.var [AV.lst (5 : Nat) (List.map tyK.elem b0) Tl.open_, AV.lst (3 : Nat) (List.map tyT.elem b1) Tl.open_],
    Blk.var
      [AV.str s0, AV.lst (5 : Nat) (List.map tyC.elem s1) Tl.open_, AV.lst (4 : Nat) (List.map tyV.elem s2) Tl.open_],
    Blk.var
      [AV.str t0, AV.lst (5 : Nat) (List.map tyC.elem t1) Tl.open_, AV.lst (4 : Nat) (List.map tyV.elem t2) Tl.open_]])
                (T.leaf ((X.ret, [AV.fsl 0 [], AV.fsl 0 [], AV.bool false, AV.fsl 0 []],
  [Blk.var [AV.lst 5 (List.map tyK.elem a0) Tl.open_, AV.lst 3 (List.map tyT.elem a1) Tl.open_],
    Blk.var [AV.lst 5 (List.map tyK.elem b0) Tl.open_, AV.lst 3 (List.map tyT.elem b1) Tl.open_],
    Blk.var [AV.str s0, AV.lst 5 (List.map tyC.elem s1) Tl.open_, AV.lst 4 (List.map tyV.elem s2) Tl.open_],
    Blk.var [AV.str t0, AV.lst 5 (List.map tyC.elem t1) Tl.open_, AV.lst 4 (List.map tyV.elem t2) Tl.open_]])))
                T.fail)))
          (T.br (askQ (clLL (26 : FuncId) tyC).2
  [AV.lst (5 : Nat) (((List.map tyT.elem a1).getD i.toNat undef).cells.getD (1 : Nat) undef).toL Tl.open_,
    AV.lst (5 : Nat) (((List.map tyT.elem b1).getD i.toNat undef).cells.getD (1 : Nat) undef).toL Tl.open_])
            (T.br (!ask
    (AV.lst (5 : Nat) (((List.map tyT.elem a1).getD i.toNat undef).cells.getD (1 : Nat) undef).toL Tl.open_ =
      AV.lst (5 : Nat) (((List.map tyT.elem b1).getD i.toNat undef).cells.getD (1 : Nat) undef).toL Tl.open_))
              (T.br true
                (T.leaf ((X.ret, [AV.ptr 0 0, AV.ptr 1 0, AV.bool false, AV.int IntKind.i64 i],
  [Blk.var [AV.lst 5 (List.map tyK.elem a0) Tl.open_, AV.lst 3 (List.map tyT.elem a1) Tl.open_],
    Blk.var [AV.lst 5 (List.map tyK.elem b0) Tl.open_, AV.lst 3 (List.map tyT.elem b1) Tl.open_],
    Blk.var
      [AV.str (((List.map tyT.elem a1).getD i.toNat undef).cells.getD 0 undef).toS,
        AV.lst 5 (((List.map tyT.elem a1).getD i.toNat undef).cells.getD 1 undef).toL Tl.open_,
        AV.lst 4 (((List.map tyT.elem a1).getD i.toNat undef).cells.getD 2 undef).toL Tl.open_],
    Blk.var
      [AV.str (((List.map tyT.elem b1).getD i.toNat undef).cells.getD 0 undef).toS,
        AV.lst 5 (((List.map tyT.elem b1).getD i.toNat undef).cells.getD 1 undef).toL Tl.open_,
        AV.lst 4 (((List.map tyT.elem b1).getD i.toNat undef).cells.getD 2 undef).toL Tl.open_]])))
                (T.br (askS
  [AV.ptr (0 : Nat) (0 : Nat), AV.ptr (1 : Nat) (0 : Nat), AV.int IntKind.i64 i, AV.ptr (2 : Nat) (0 : Nat),
    AV.ptr (3 : Nat) (0 : Nat), AV.int IntKind.i64 (0 : Int)]
  [AV.ptr (0 : Nat) (0 : Nat), AV.ptr (1 : Nat) (0 : Nat), AV.int IntKind.i64 i, AV.ptr (2 : Nat) (0 : Nat),
    AV.ptr (3 : Nat) (0 : Nat), AV.int IntKind.i64 (↑(0 : Nat) : Int)]
  [Blk.var [AV.lst (5 : Nat) (List.map tyK.elem a0) Tl.open_, AV.lst (3 : Nat) (List.map tyT.elem a1) Tl.open_],
    Blk.var [AV.lst (5 : Nat) (List.map tyK.elem b0) Tl.open_, AV.lst (3 : Nat) (List.map tyT.elem b1) Tl.open_],
    Blk.var
      [AV.str (((List.map tyT.elem a1).getD i.toNat undef).cells.getD (0 : Nat) undef).toS,
        AV.lst (5 : Nat) (((List.map tyT.elem a1).getD i.toNat undef).cells.getD (1 : Nat) undef).toL Tl.open_,
        AV.lst (4 : Nat) (((List.map tyT.elem a1).getD i.toNat undef).cells.getD (2 : Nat) undef).toL Tl.open_],
    Blk.var
      [AV.str (((List.map tyT.elem b1).getD i.toNat undef).cells.getD (0 : Nat) undef).toS,
        AV.lst (5 : Nat) (((List.map tyT.elem b1).getD i.toNat undef).cells.getD (1 : Nat) undef).toL Tl.open_,
        AV.lst (4 : Nat) (((List.map tyT.elem b1).getD i.toNat undef).cells.getD (2 : Nat) undef).toL Tl.open_]]
  [Blk.var [AV.lst (5 : Nat) (List.map tyK.elem a0) Tl.open_, AV.lst (3 : Nat) (List.map tyT.elem a1) Tl.open_],
    Blk.var [AV.lst (5 : Nat) (List.map tyK.elem b0) Tl.open_, AV.lst (3 : Nat) (List.map tyT.elem b1) Tl.open_],
    Blk.var
      [AV.str s0, AV.lst (5 : Nat) (List.map tyC.elem s1) Tl.open_, AV.lst (4 : Nat) (List.map tyV.elem s2) Tl.open_],
    Blk.var
      [AV.str t0, AV.lst (5 : Nat) (List.map tyC.elem t1) Tl.open_, AV.lst (4 : Nat) (List.map tyV.elem t2) Tl.open_]])
                  (T.leaf ((X.ret, [AV.fsl 0 [], AV.fsl 0 [], AV.bool false, AV.fsl 0 []],
  [Blk.var [AV.lst 5 (List.map tyK.elem a0) Tl.open_, AV.lst 3 (List.map tyT.elem a1) Tl.open_],
    Blk.var [AV.lst 5 (List.map tyK.elem b0) Tl.open_, AV.lst 3 (List.map tyT.elem b1) Tl.open_],
    Blk.var [AV.str s0, AV.lst 5 (List.map tyC.elem s1) Tl.open_, AV.lst 4 (List.map tyV.elem s2) Tl.open_],
    Blk.var [AV.str t0, AV.lst 5 (List.map tyC.elem t1) Tl.open_, AV.lst 4 (List.map tyV.elem t2) Tl.open_]])))
                  T.fail))
              (T.br (!decide
    ((↑(((List.map tyT.elem a1).getD i.toNat undef).cells.getD (2 : Nat) undef).toL.length : Int) =
      (↑(((List.map tyT.elem b1).getD i.toNat undef).cells.getD (2 : Nat) undef).toL.length : Int)))
                (T.leaf ((X.ret, [AV.ptr 0 0, AV.ptr 1 0, AV.bool false, AV.int IntKind.i64 i],
  [Blk.var [AV.lst 5 (List.map tyK.elem a0) Tl.open_, AV.lst 3 (List.map tyT.elem a1) Tl.open_],
    Blk.var [AV.lst 5 (List.map tyK.elem b0) Tl.open_, AV.lst 3 (List.map tyT.elem b1) Tl.open_],
    Blk.var
      [AV.str (((List.map tyT.elem a1).getD i.toNat undef).cells.getD 0 undef).toS,
        AV.lst 5 (((List.map tyT.elem a1).getD i.toNat undef).cells.getD 1 undef).toL Tl.open_,
        AV.lst 4 (((List.map tyT.elem a1).getD i.toNat undef).cells.getD 2 undef).toL Tl.open_],
    Blk.var
      [AV.str (((List.map tyT.elem b1).getD i.toNat undef).cells.getD 0 undef).toS,
        AV.lst 5 (((List.map tyT.elem b1).getD i.toNat undef).cells.getD 1 undef).toL Tl.open_,
        AV.lst 4 (((List.map tyT.elem b1).getD i.toNat undef).cells.getD 2 undef).toL Tl.open_]])))
                (T.br (askS
  [AV.ptr (0 : Nat) (0 : Nat), AV.ptr (1 : Nat) (0 : Nat), AV.int IntKind.i64 i, AV.ptr (2 : Nat) (0 : Nat),
    AV.ptr (3 : Nat) (0 : Nat), AV.int IntKind.i64 (0 : Int)]
  [AV.ptr (0 : Nat) (0 : Nat), AV.ptr (1 : Nat) (0 : Nat), AV.int IntKind.i64 i, AV.ptr (2 : Nat) (0 : Nat),
    AV.ptr (3 : Nat) (0 : Nat), AV.int IntKind.i64 (↑(0 : Nat) : Int)]
  [Blk.var [AV.lst (5 : Nat) (List.map tyK.elem a0) Tl.open_, AV.lst (3 : Nat) (List.map tyT.elem a1) Tl.open_],
    Blk.var [AV.lst (5 : Nat) (List.map tyK.elem b0) Tl.open_, AV.lst (3 : Nat) (List.map tyT.elem b1) Tl.open_],
    Blk.var
      [AV.str (((List.map tyT.elem a1).getD i.toNat undef).cells.getD (0 : Nat) undef).toS,
        AV.lst (5 : Nat) (((List.map tyT.elem a1).getD i.toNat undef).cells.getD (1 : Nat) undef).toL Tl.open_,
        AV.lst (4 : Nat) (((List.map tyT.elem a1).getD i.toNat undef).cells.getD (2 : Nat) undef).toL Tl.open_],
    Blk.var
      [AV.str (((List.map tyT.elem b1).getD i.toNat undef).cells.getD (0 : Nat) undef).toS,
        AV.lst (5 : Nat) (((List.map tyT.elem b1).getD i.toNat undef).cells.getD (1 : Nat) undef).toL Tl.open_,
        AV.lst (4 : Nat) (((List.map tyT.elem b1).getD i.toNat undef).cells.getD (2 : Nat) undef).toL Tl.open_]]
  [Blk.var [AV.lst (5 : Nat) (List.map tyK.elem a0) Tl.open_, AV.lst (3 : Nat) (List.map tyT.elem a1) Tl.open_],
    Blk.var [AV.lst (5 : Nat) (List.map tyK.elem b0) Tl.open_, AV.lst (3 : Nat) (List.map tyT.elem b1) Tl.open_],
    Blk.var
      [AV.str s0, AV.lst (5 : Nat) (List.map tyC.elem s1) Tl.open_, AV.lst (4 : Nat) (List.map tyV.elem s2) Tl.open_],
    Blk.var
      [AV.str t0, AV.lst (5 : Nat) (List.map tyC.elem t1) Tl.open_, AV.lst (4 : Nat) (List.map tyV.elem t2) Tl.open_]])
                  (T.leaf ((X.ret, [AV.fsl 0 [], AV.fsl 0 [], AV.bool false, AV.fsl 0 []],
  [Blk.var [AV.lst 5 (List.map tyK.elem a0) Tl.open_, AV.lst 3 (List.map tyT.elem a1) Tl.open_],
    Blk.var [AV.lst 5 (List.map tyK.elem b0) Tl.open_, AV.lst 3 (List.map tyT.elem b1) Tl.open_],
    Blk.var [AV.str s0, AV.lst 5 (List.map tyC.elem s1) Tl.open_, AV.lst 4 (List.map tyV.elem s2) Tl.open_],
    Blk.var [AV.str t0, AV.lst 5 (List.map tyC.elem t1) Tl.open_, AV.lst 4 (List.map tyV.elem t2) Tl.open_]])))
                  T.fail)))
            T.fail))
        T.fail)
      T.fail)
    (T.leaf ((X.exit 2, [AV.ptr 0 0, AV.ptr 1 0, AV.fsl 0 [], AV.int IntKind.i64 i],
  [Blk.var [AV.lst 5 (List.map tyK.elem a0) Tl.open_, AV.lst 3 (List.map tyT.elem a1) Tl.open_],
    Blk.var [AV.lst 5 (List.map tyK.elem b0) Tl.open_, AV.lst 3 (List.map tyT.elem b1) Tl.open_]])))) := by kernel_rfl
theorem p8ox (a0 : List tyK.I) (a1 : List tyT.I) (b0 : List tyK.I) (b1 : List tyT.I) (s0 : ByteArray) (s1 : List tyC.I) (s2 : List tyV.I) (t0 : ByteArray) (t1 : List tyC.I) (t2 : List tyV.I) (i : Int) : obsK (XC 8 [19,27,32,46,51,69,77,85,90,108,115,122,129] [clEE 25 tyK, clLL 26 tyC, clLL 27 tyI]) (kNo [1,1,1,0,1,0,0,1,0,0,1,1,1,1]) 130 (sub (bodyOf Tryz.f8) [1,1,1,0,1,0,0]) [1,1,1,0,1,0,0] (frm [(2, .ptr 0 0), (3, .ptr 1 0), (6, .int .i64 i)]) [.var [encL tyK a0, encL tyT a1], .var [encL tyK b0, encL tyT b1]] [2,3,4,6] =
  (T.br (decide (i < (↑(List.map tyT.elem a1).length : Int)))
    (T.br (decide ((0 : Int) ≤ i) && decide (i < (↑(List.map tyT.elem a1).length : Int)) &&
  fitsC Tryz.prog (44 : Nat) ((List.map tyT.elem a1).getD i.toNat undef))
      (T.br (decide ((0 : Int) ≤ i) && decide (i < (↑(List.map tyT.elem b1).length : Int)) &&
  fitsC Tryz.prog (44 : Nat) ((List.map tyT.elem b1).getD i.toNat undef))
        (T.br (!decide
    ((((List.map tyT.elem a1).getD i.toNat undef).cells.getD (0 : Nat) undef).toS =
      (((List.map tyT.elem b1).getD i.toNat undef).cells.getD (0 : Nat) undef).toS))
          (T.br true
            (T.br true
              (T.leaf ((X.ret, [AV.ptr 0 0, AV.ptr 1 0, AV.bool false, AV.int IntKind.i64 i],
  [Blk.var [AV.lst 5 (List.map tyK.elem a0) Tl.open_, AV.lst 3 (List.map tyT.elem a1) Tl.open_],
    Blk.var [AV.lst 5 (List.map tyK.elem b0) Tl.open_, AV.lst 3 (List.map tyT.elem b1) Tl.open_],
    Blk.var
      [AV.str (((List.map tyT.elem a1).getD i.toNat undef).cells.getD 0 undef).toS,
        AV.lst 5 (((List.map tyT.elem a1).getD i.toNat undef).cells.getD 1 undef).toL Tl.open_,
        AV.lst 4 (((List.map tyT.elem a1).getD i.toNat undef).cells.getD 2 undef).toL Tl.open_],
    Blk.var
      [AV.str (((List.map tyT.elem b1).getD i.toNat undef).cells.getD 0 undef).toS,
        AV.lst 5 (((List.map tyT.elem b1).getD i.toNat undef).cells.getD 1 undef).toL Tl.open_,
        AV.lst 4 (((List.map tyT.elem b1).getD i.toNat undef).cells.getD 2 undef).toL Tl.open_]])))
              T.fail)
            (T.br (!decide
    ((↑(((List.map tyT.elem a1).getD i.toNat undef).cells.getD (2 : Nat) undef).toL.length : Int) =
      (↑(((List.map tyT.elem b1).getD i.toNat undef).cells.getD (2 : Nat) undef).toL.length : Int)))
              (T.leaf ((X.ret, [AV.ptr 0 0, AV.ptr 1 0, AV.bool false, AV.int IntKind.i64 i],
  [Blk.var [AV.lst 5 (List.map tyK.elem a0) Tl.open_, AV.lst 3 (List.map tyT.elem a1) Tl.open_],
    Blk.var [AV.lst 5 (List.map tyK.elem b0) Tl.open_, AV.lst 3 (List.map tyT.elem b1) Tl.open_],
    Blk.var
      [AV.str (((List.map tyT.elem a1).getD i.toNat undef).cells.getD 0 undef).toS,
        AV.lst 5 (((List.map tyT.elem a1).getD i.toNat undef).cells.getD 1 undef).toL Tl.open_,
        AV.lst 4 (((List.map tyT.elem a1).getD i.toNat undef).cells.getD 2 undef).toL Tl.open_],
    Blk.var
      [AV.str (((List.map tyT.elem b1).getD i.toNat undef).cells.getD 0 undef).toS,
        AV.lst 5 (((List.map tyT.elem b1).getD i.toNat undef).cells.getD 1 undef).toL Tl.open_,
        AV.lst 4 (((List.map tyT.elem b1).getD i.toNat undef).cells.getD 2 undef).toL Tl.open_]])))
              T.fail))
          (T.br (askQ (clLL (26 : FuncId) tyC).2
  [AV.lst (5 : Nat) (((List.map tyT.elem a1).getD i.toNat undef).cells.getD (1 : Nat) undef).toL Tl.open_,
    AV.lst (5 : Nat) (((List.map tyT.elem b1).getD i.toNat undef).cells.getD (1 : Nat) undef).toL Tl.open_])
            (T.br (!ask
    (AV.lst (5 : Nat) (((List.map tyT.elem a1).getD i.toNat undef).cells.getD (1 : Nat) undef).toL Tl.open_ =
      AV.lst (5 : Nat) (((List.map tyT.elem b1).getD i.toNat undef).cells.getD (1 : Nat) undef).toL Tl.open_))
              (T.br true
                (T.leaf ((X.ret, [AV.ptr 0 0, AV.ptr 1 0, AV.bool false, AV.int IntKind.i64 i],
  [Blk.var [AV.lst 5 (List.map tyK.elem a0) Tl.open_, AV.lst 3 (List.map tyT.elem a1) Tl.open_],
    Blk.var [AV.lst 5 (List.map tyK.elem b0) Tl.open_, AV.lst 3 (List.map tyT.elem b1) Tl.open_],
    Blk.var
      [AV.str (((List.map tyT.elem a1).getD i.toNat undef).cells.getD 0 undef).toS,
        AV.lst 5 (((List.map tyT.elem a1).getD i.toNat undef).cells.getD 1 undef).toL Tl.open_,
        AV.lst 4 (((List.map tyT.elem a1).getD i.toNat undef).cells.getD 2 undef).toL Tl.open_],
    Blk.var
      [AV.str (((List.map tyT.elem b1).getD i.toNat undef).cells.getD 0 undef).toS,
        AV.lst 5 (((List.map tyT.elem b1).getD i.toNat undef).cells.getD 1 undef).toL Tl.open_,
        AV.lst 4 (((List.map tyT.elem b1).getD i.toNat undef).cells.getD 2 undef).toL Tl.open_]])))
                T.fail)
              (T.br (!decide
    ((↑(((List.map tyT.elem a1).getD i.toNat undef).cells.getD (2 : Nat) undef).toL.length : Int) =
      (↑(((List.map tyT.elem b1).getD i.toNat undef).cells.getD (2 : Nat) undef).toL.length : Int)))
                (T.leaf ((X.ret, [AV.ptr 0 0, AV.ptr 1 0, AV.bool false, AV.int IntKind.i64 i],
  [Blk.var [AV.lst 5 (List.map tyK.elem a0) Tl.open_, AV.lst 3 (List.map tyT.elem a1) Tl.open_],
    Blk.var [AV.lst 5 (List.map tyK.elem b0) Tl.open_, AV.lst 3 (List.map tyT.elem b1) Tl.open_],
    Blk.var
      [AV.str (((List.map tyT.elem a1).getD i.toNat undef).cells.getD 0 undef).toS,
        AV.lst 5 (((List.map tyT.elem a1).getD i.toNat undef).cells.getD 1 undef).toL Tl.open_,
        AV.lst 4 (((List.map tyT.elem a1).getD i.toNat undef).cells.getD 2 undef).toL Tl.open_],
    Blk.var
      [AV.str (((List.map tyT.elem b1).getD i.toNat undef).cells.getD 0 undef).toS,
        AV.lst 5 (((List.map tyT.elem b1).getD i.toNat undef).cells.getD 1 undef).toL Tl.open_,
        AV.lst 4 (((List.map tyT.elem b1).getD i.toNat undef).cells.getD 2 undef).toL Tl.open_]])))
                T.fail))
            T.fail))
        T.fail)
      T.fail)
    (T.leaf ((X.exit 2, [AV.ptr 0 0, AV.ptr 1 0, AV.fsl 0 [], AV.int IntKind.i64 i],
  [Blk.var [AV.lst 5 (List.map tyK.elem a0) Tl.open_, AV.lst 3 (List.map tyT.elem a1) Tl.open_],
    Blk.var [AV.lst 5 (List.map tyK.elem b0) Tl.open_, AV.lst 3 (List.map tyT.elem b1) Tl.open_]])))) := by kernel_rfl
def hm8 (a0 : List tyK.I) (a1 : List tyT.I) (b0 : List tyK.I) (b1 : List tyT.I) : H := [.var [encL tyK a0, encL tyT a1], .var [encL tyK b0, encL tyT b1]]
def hi8 (a0 : List tyK.I) (a1 : List tyT.I) (b0 : List tyK.I) (b1 : List tyT.I) (s0 : ByteArray) (s1 : List tyC.I) (s2 : List tyV.I) (t0 : ByteArray) (t1 : List tyC.I) (t2 : List tyV.I) : H := [.var [encL tyK a0, encL tyT a1], .var [encL tyK b0, encL tyT b1], .var [.str s0, encL tyC s1, encL tyV s2], .var [.str t0, encL tyC t1, encL tyV t2]]
theorem calls8 {X : SX} (hx : X.call = callsBy [clEE 25 tyK, clLL 26 tyC, clLL 27 tyI]) (hE : X.E = E0) : CallOK X.E X.calls := callsBy_ok hx fun c hc => by
  rw [hE]
  rcases List.mem_cons.1 hc with rfl | hc
  · exact clEE_con con11
  rcases List.mem_cons.1 hc with rfl | hc
  · exact clLL_con con33
  · obtain rfl := List.mem_singleton.1 hc
    exact clLL_con con63
theorem seen8o (a0 : List tyK.I) (a1 : List tyT.I) (b0 : List tyK.I) (b1 : List tyT.I) {K : Known} {c : Code} {p : List Nat} {τ : Fr} {h : H} {L : List Nat} {x : X} {vs : List AV} {extra : H} (hK : KOK E0 130 [] (bodyOf Tryz.f8) K) (hp : sub (bodyOf Tryz.f8) p = c)
    (hr : (obsK (XC 8 [19,27,32,46,51,69,77,85,90,108,115,122,129] [clEE 25 tyK, clLL 26 tyC, clLL 27 tyI]) K 130 c p τ h L).run = .ok (x, vs, (hm8 a0 a1 b0 b1) ++ extra)) {sl : List (Nat × AV)}
    (hs : ∀ q, q ∈ sl → frm (L.zip vs) q.1 = q.2 ∧ (noRef q.2 = true ∨ q.2 = .ptr 0 0 ∨ q.2 = .ptr 1 0) ∧ isFsl q.2 = false) : Tri E0 130 [] c τ h x (frm sl) (hm8 a0 a1 b0 b1) := by
  refine Tri.seenB (X := XC 8 [19,27,32,46,51,69,77,85,90,108,115,122,129] [clEE 25 tyK, clLL 26 tyC, clLL 27 tyI]) g0 noG0 (calls8 rfl rfl) hK hp hr (Nat.zero_le _) (fun b hb => ?_) (fun b hb => ?_) (fun q hq => ?_)
  · simp only [hm8, List.mem_cons, List.not_mem_nil, or_false] at hb
    rcases hb with rfl | rfl <;> nofun
  · simp only [hm8, List.mem_cons, List.not_mem_nil, or_false] at hb
    rcases hb with rfl | rfl <;> exact congrArg Blk.var (rens_noRef _ _ (by simp only [noRefs, encL_noRef, Bool.and_true]))
  · obtain ⟨h1, h2, h3⟩ := hs q hq
    refine ⟨h1, ?_, h3⟩
    rcases h2 with h2 | h2 | h2
    · exact ren_noRef _ _ h2
    · rw [h2]; rfl
    · rw [h2]; rfl
theorem seen8i (a0 : List tyK.I) (a1 : List tyT.I) (b0 : List tyK.I) (b1 : List tyT.I) (s0 : ByteArray) (s1 : List tyC.I) (s2 : List tyV.I) (t0 : ByteArray) (t1 : List tyC.I) (t2 : List tyV.I) {τ : Fr} {h : H} {x : X} {vs : List AV} {extra : H}
    (hr : (obsK (XC 8 [19,27,32,46,51,69,77,85,90,108,115,122,129] [clEE 25 tyK, clLL 26 tyC, clLL 27 tyI]) (fun _ => none) 130 (sub (bodyOf Tryz.f8) [1,1,1,0,1,0,0,1,0,0,1,1,1,1,0,0]) [1,1,1,0,1,0,0,1,0,0,1,1,1,1,0,0] τ h [2,3,4,6,7,8,9]).run = .ok (x, vs, (hi8 a0 a1 b0 b1 s0 s1 s2 t0 t1 t2) ++ extra)) {sl : List (Nat × AV)}
    (hs : ∀ q, q ∈ sl → frm ([2,3,4,6,7,8,9].zip vs) q.1 = q.2 ∧ (noRef q.2 = true ∨ q.2 = .ptr 0 0 ∨ q.2 = .ptr 1 0 ∨ q.2 = .ptr 2 0 ∨ q.2 = .ptr 3 0) ∧ isFsl q.2 = false) : Tri E0 130 [] (sub (bodyOf Tryz.f8) [1,1,1,0,1,0,0,1,0,0,1,1,1,1,0,0]) τ h x (frm sl) (hi8 a0 a1 b0 b1 s0 s1 s2 t0 t1 t2) := by
  refine Tri.seenB (X := XC 8 [19,27,32,46,51,69,77,85,90,108,115,122,129] [clEE 25 tyK, clLL 26 tyC, clLL 27 tyI]) g0 noG0 (calls8 rfl rfl) KOK.none rfl hr (Nat.zero_le _) (fun b hb => ?_) (fun b hb => ?_) (fun q hq => ?_)
  · simp only [hi8, List.mem_cons, List.not_mem_nil, or_false] at hb
    rcases hb with rfl | rfl | rfl | rfl <;> nofun
  · simp only [hi8, List.mem_cons, List.not_mem_nil, or_false] at hb
    rcases hb with rfl | rfl | rfl | rfl <;> exact congrArg Blk.var (rens_noRef _ _ (by simp only [noRefs, noRef, encL_noRef, Bool.and_true, Bool.true_and]))
  · obtain ⟨h1, h2, h3⟩ := hs q hq
    refine ⟨h1, ?_, h3⟩
    rcases h2 with h2 | h2 | h2 | h2 | h2
    · exact ren_noRef _ _ h2
    · rw [h2]; rfl
    · rw [h2]; rfl
    · rw [h2]; rfl
    · rw [h2]; rfl
theorem go8i (a0 : List tyK.I) (a1 : List tyT.I) (b0 : List tyK.I) (b1 : List tyT.I) (s0 : ByteArray) (s1 : List tyC.I) (s2 : List tyV.I) (t0 : ByteArray) (t1 : List tyC.I) (t2 : List tyV.I) (i : Int) (hlen : t2.length = s2.length) (hl : s2.length < 1000000000000000) (hok : ∀ x, x ∈ s2 → tyV.okay x) (k : Nat) (hk : k < s2.length) (v0 : ByteArray) (v1 : Int) (v2 : ByteArray) (v3 : List tyI.I) (w0 : ByteArray) (w1 : Int) (w2 : ByteArray) (w3 : List tyI.I)
    (hx : s2.getD k tyV.zero = (v0, v1, v2, v3)) (hy : t2.getD k tyV.zero = (w0, w1, w2, w3)) :
    (s2.getD k tyV.zero = t2.getD k tyV.zero → Tri E0 130 [] (sub (bodyOf Tryz.f8) [1,1,1,0,1,0,0,1,0,0,1,1,1,1,0,0]) (frm (st8i i k)) (hi8 a0 a1 b0 b1 s0 s1 s2 t0 t1 t2) .normal (frm (st8i i (k + 1))) (hi8 a0 a1 b0 b1 s0 s1 s2 t0 t1 t2)) ∧
    (s2.getD k tyV.zero ≠ t2.getD k tyV.zero → Tri E0 130 [] (sub (bodyOf Tryz.f8) [1,1,1,0,1,0,0,1,0,0,1,1,1,1,0,0]) (frm (st8i i k)) (hi8 a0 a1 b0 b1 s0 s1 s2 t0 t1 t2) .ret (frm [(4, .bool false)]) (hi8 a0 a1 b0 b1 s0 s1 s2 t0 t1 t2)) := by
  have ht := p8i a0 a1 b0 b1 s0 s1 s2 t0 t1 t2 i k
  have hkm : k < t2.length := by omega
  have f0 : fitsC Tryz.prog 46 (tyV.elem tyV.zero) = true := by kernel_rfl
  have ho : tyV.okay (s2.getD k tyV.zero) := hok _ (by rw [List.getD_eq_getElem?_getD, List.getElem?_eq_getElem hk]; exact List.getElem_mem hk)
  rw [idx_ok hk f0, idx_ok hkm f0, lt_ok hk, Int.toNat_natCast, getD_elem hk, getD_elem hkm, wrap_next (by omega)] at ht
  rw [hx] at ho
  have d0 : (!decide (((tyV.elem (s2.getD k tyV.zero)).cells.getD 0 undef).toS = ((tyV.elem (t2.getD k tyV.zero)).cells.getD 0 undef).toS)) = !decide (v0 = w0) := by rw [hx, hy]; rfl
  have d1 : (!decide (((tyV.elem (s2.getD k tyV.zero)).cells.getD 1 undef).toI = ((tyV.elem (t2.getD k tyV.zero)).cells.getD 1 undef).toI)) = !decide (v1 = w1) := by rw [hx, hy]; rfl
  have d2 : (!decide (((tyV.elem (s2.getD k tyV.zero)).cells.getD 2 undef).toS = ((tyV.elem (t2.getD k tyV.zero)).cells.getD 2 undef).toS)) = !decide (v2 = w2) := by rw [hx, hy]; rfl
  have q3 : askQ (clLL 27 tyI).2 [AV.lst 2 ((tyV.elem (s2.getD k tyV.zero)).cells.getD 3 undef).toL Tl.open_, AV.lst 2 ((tyV.elem (t2.getD k tyV.zero)).cells.getD 3 undef).toL Tl.open_] = true := by rw [hx, hy]; exact ask_true ⟨v3, w3, rfl, Nat.lt_of_le_of_lt ho.2.2.2.1 (by decide)⟩
  have e3 : ask (AV.lst 2 ((tyV.elem (s2.getD k tyV.zero)).cells.getD 3 undef).toL Tl.open_ = AV.lst 2 ((tyV.elem (t2.getD k tyV.zero)).cells.getD 3 undef).toL Tl.open_) = ask (v3 = w3) := by rw [hx, hy]; exact ask_LL tyI v3 w3
  rw [d0, d1, d2, q3, e3] at ht
  have hs := same23 v0 v1 v2 v3 w0 w1 w2 w3
  rw [hx, hy]
  have hsl : ∀ (x : AV) (j : Int), ∀ q, q ∈ [(2, AV.ptr 0 0), (3, AV.ptr 1 0), (6, AV.int .i64 i), (7, AV.ptr 2 0), (8, AV.ptr 3 0), (9, AV.int .i64 j)] → frm ([2,3,4,6,7,8,9].zip [AV.ptr 0 0, AV.ptr 1 0, x, AV.int .i64 i, AV.ptr 2 0, AV.ptr 3 0, AV.int .i64 j]) q.1 = q.2 ∧ (noRef q.2 = true ∨ q.2 = .ptr 0 0 ∨ q.2 = .ptr 1 0 ∨ q.2 = .ptr 2 0 ∨ q.2 = .ptr 3 0) ∧ isFsl q.2 = false := by
    intro x j q hq
    simp only [List.mem_cons, List.not_mem_nil, or_false] at hq
    rcases hq with rfl | rfl | rfl | rfl | rfl | rfl
    · exact ⟨rfl, .inr (.inl rfl), rfl⟩
    · exact ⟨rfl, .inr (.inr (.inl rfl)), rfl⟩
    · exact ⟨rfl, .inl rfl, rfl⟩
    · exact ⟨rfl, .inr (.inr (.inr (.inl rfl))), rfl⟩
    · exact ⟨rfl, .inr (.inr (.inr (.inr rfl))), rfl⟩
    · exact ⟨rfl, .inl rfl, rfl⟩
  have hrt : ∀ (j : Int), ∀ q, q ∈ [(4, AV.bool false)] → frm ([2,3,4,6,7,8,9].zip [AV.ptr 0 0, AV.ptr 1 0, .bool false, AV.int .i64 i, AV.ptr 2 0, AV.ptr 3 0, AV.int .i64 j]) q.1 = q.2 ∧ (noRef q.2 = true ∨ q.2 = .ptr 0 0 ∨ q.2 = .ptr 1 0 ∨ q.2 = .ptr 2 0 ∨ q.2 = .ptr 3 0) ∧ isFsl q.2 = false := by
    intro j q hq
    simp only [List.mem_cons, List.not_mem_nil, or_false] at hq
    rcases hq with rfl
    exact ⟨rfl, .inl rfl, rfl⟩
  refine ⟨fun he => ?_, fun he => ?_⟩
  · have h1 := ask_true he
    have h2 : _ = true := hs.symm.trans h1
    clear he h1 hs
    generalize decide (v0 = w0) = c0 at ht h2
    generalize decide (v1 = w1) = c1 at ht h2
    generalize decide (v2 = w2) = c2 at ht h2
    generalize ask (v3 = w3) = c3 at ht h2
    cases c0 <;> cases c1 <;> cases c2 <;> cases c3 <;> first | (cases h2; done) | exact seen8i a0 a1 b0 b1 s0 s1 s2 t0 t1 t2 (extra := [.var _, .var _]) (congrArg T.run ht) (hsl _ _)
  · have h1 := ask_false he
    have h2 : _ = false := hs.symm.trans h1
    clear he h1 hs
    generalize decide (v0 = w0) = c0 at ht h2
    generalize decide (v1 = w1) = c1 at ht h2
    generalize decide (v2 = w2) = c2 at ht h2
    generalize ask (v3 = w3) = c3 at ht h2
    cases c0 <;> cases c1 <;> cases c2 <;> cases c3 <;> first | (cases h2; done) | exact seen8i a0 a1 b0 b1 s0 s1 s2 t0 t1 t2 (extra := [.var _, .var _]) (congrArg T.run ht) (hrt _)
theorem out8i (a0 : List tyK.I) (a1 : List tyT.I) (b0 : List tyK.I) (b1 : List tyT.I) (s0 : ByteArray) (s1 : List tyC.I) (s2 : List tyV.I) (t0 : ByteArray) (t1 : List tyC.I) (t2 : List tyV.I) (i : Int) : Tri E0 130 [] (sub (bodyOf Tryz.f8) [1,1,1,0,1,0,0,1,0,0,1,1,1,1,0,0]) (frm (st8i i s2.length)) (hi8 a0 a1 b0 b1 s0 s1 s2 t0 t1 t2) (.exit 4) (frm (st8i i s2.length)) (hi8 a0 a1 b0 b1 s0 s1 s2 t0 t1 t2) := by
  have ht := p8i a0 a1 b0 b1 s0 s1 s2 t0 t1 t2 i s2.length
  rw [lt_no] at ht
  refine seen8i a0 a1 b0 b1 s0 s1 s2 t0 t1 t2 (extra := []) (congrArg T.run ht) (fun q hq => ?_)
  simp only [st8i, List.mem_cons, List.not_mem_nil, or_false] at hq
  rcases hq with rfl | rfl | rfl | rfl | rfl | rfl
  · exact ⟨rfl, .inr (.inl rfl), rfl⟩
  · exact ⟨rfl, .inr (.inr (.inl rfl)), rfl⟩
  · exact ⟨rfl, .inl rfl, rfl⟩
  · exact ⟨rfl, .inr (.inr (.inr (.inl rfl))), rfl⟩
  · exact ⟨rfl, .inr (.inr (.inr (.inr rfl))), rfl⟩
  · exact ⟨rfl, .inl rfl, rfl⟩
theorem inner8 (a0 : List tyK.I) (a1 : List tyT.I) (b0 : List tyK.I) (b1 : List tyT.I) (s0 : ByteArray) (s1 : List tyC.I) (s2 : List tyV.I) (t0 : ByteArray) (t1 : List tyC.I) (t2 : List tyV.I) (i : Int) (hlen : s2.length = t2.length) (hl : s2.length < 1000000000000000) (hok : ∀ x, x ∈ s2 → tyV.okay x) :
    (s2 = t2 → Tri E0 130 [] (sub (bodyOf Tryz.f8) [1,1,1,0,1,0,0,1,0,0,1,1,1,1]) (frm (st8i i 0)) (hi8 a0 a1 b0 b1 s0 s1 s2 t0 t1 t2) .normal (frm [(2, .ptr 0 0), (3, .ptr 1 0), (6, .int .i64 i)]) (hi8 a0 a1 b0 b1 s0 s1 s2 t0 t1 t2)) ∧
    (s2 ≠ t2 → Tri E0 130 [] (sub (bodyOf Tryz.f8) [1,1,1,0,1,0,0,1,0,0,1,1,1,1]) (frm (st8i i 0)) (hi8 a0 a1 b0 b1 s0 s1 s2 t0 t1 t2) .ret (frm [(4, .bool false)]) (hi8 a0 a1 b0 b1 s0 s1 s2 t0 t1 t2)) := by
  have hgo : ∀ k, k < s2.length → (s2.getD k tyV.zero = t2.getD k tyV.zero → Tri E0 130 [] (sub (bodyOf Tryz.f8) [1,1,1,0,1,0,0,1,0,0,1,1,1,1,0,0]) (frm (st8i i k)) (hi8 a0 a1 b0 b1 s0 s1 s2 t0 t1 t2) .normal (frm (st8i i (k + 1))) (hi8 a0 a1 b0 b1 s0 s1 s2 t0 t1 t2)) ∧
      (s2.getD k tyV.zero ≠ t2.getD k tyV.zero → Tri E0 130 [] (sub (bodyOf Tryz.f8) [1,1,1,0,1,0,0,1,0,0,1,1,1,1,0,0]) (frm (st8i i k)) (hi8 a0 a1 b0 b1 s0 s1 s2 t0 t1 t2) .ret (frm [(4, .bool false)]) (hi8 a0 a1 b0 b1 s0 s1 s2 t0 t1 t2)) := fun k hk => by
    obtain ⟨⟨v0, v1, v2, v3⟩, hx⟩ : ∃ x : tyV.I, s2.getD k tyV.zero = x := ⟨_, rfl⟩
    obtain ⟨⟨w0, w1, w2, w3⟩, hy⟩ : ∃ x : tyV.I, t2.getD k tyV.zero = x := ⟨_, rfl⟩
    exact go8i a0 a1 b0 b1 s0 s1 s2 t0 t1 t2 i hlen.symm hl hok k hk v0 v1 v2 v3 w0 w1 w2 w3 hx hy
  obtain ⟨r1, r2⟩ := eq_rounds (L := s2) (M := t2) (z := tyV.zero) (st := st8i i) (hm := (hi8 a0 a1 b0 b1 s0 s1 s2 t0 t1 t2)) (rt := [(4, .bool false)]) (id := 4) hlen.symm (fun k hk => (hgo k hk).1) (fun k hk => (hgo k hk).2) (out8i a0 a1 b0 b1 s0 s1 s2 t0 t1 t2 i)
  refine ⟨fun he => ?_, fun he => Tri.block (id := 4) (Tri.loop (r2 he))⟩
  refine .wk .refl (Tri.block (id := 4) (Tri.loop (r1 he))) (Wk.fewer fun q hq => ?_)
  simp only [List.mem_cons, List.not_mem_nil, or_false] at hq
  rcases hq with rfl | rfl | rfl <;> rfl
theorem go8o (a0 : List tyK.I) (a1 : List tyT.I) (b0 : List tyK.I) (b1 : List tyT.I) (s0 : ByteArray) (s1 : List tyC.I) (s2 : List tyV.I) (t0 : ByteArray) (t1 : List tyC.I) (t2 : List tyV.I) (hlen : b1.length = a1.length) (hl : a1.length < 1000000000000000) (hok : ∀ x, x ∈ a1 → tyT.okay x) (j : Nat) (hj : j < a1.length) (hx : a1.getD j tyT.zero = (s0, s1, s2)) (hy : b1.getD j tyT.zero = (t0, t1, t2)) :
    (a1.getD j tyT.zero = b1.getD j tyT.zero → Tri E0 130 [] (sub (bodyOf Tryz.f8) [1,1,1,0,1,0,0]) (frm (st8b j)) (hm8 a0 a1 b0 b1) .normal (frm (st8b (j + 1))) (hm8 a0 a1 b0 b1)) ∧
    (a1.getD j tyT.zero ≠ b1.getD j tyT.zero → Tri E0 130 [] (sub (bodyOf Tryz.f8) [1,1,1,0,1,0,0]) (frm (st8b j)) (hm8 a0 a1 b0 b1) .ret (frm [(4, .bool false)]) (hm8 a0 a1 b0 b1)) := by
  have hjm : j < b1.length := by omega
  have f0 : fitsC Tryz.prog 44 (tyT.elem tyT.zero) = true := by kernel_rfl
  have ho : tyT.okay (a1.getD j tyT.zero) := hok _ (by rw [List.getD_eq_getElem?_getD, List.getElem?_eq_getElem hj]; exact List.getElem_mem hj)
  rw [hx] at ho
  have l1 : s1.length < 1000000000000000 := Nat.lt_of_le_of_lt ho.2.1.1 (by decide)
  have l2 : s2.length < 1000000000000000 := Nat.lt_of_le_of_lt ho.2.2.1 (by decide)
  have d0 : (!decide (((tyT.elem (a1.getD j tyT.zero)).cells.getD 0 undef).toS = ((tyT.elem (b1.getD j tyT.zero)).cells.getD 0 undef).toS)) = !decide (s0 = t0) := by rw [hx, hy]; rfl
  have q1 : askQ (clLL 26 tyC).2 [AV.lst 5 ((tyT.elem (a1.getD j tyT.zero)).cells.getD 1 undef).toL Tl.open_, AV.lst 5 ((tyT.elem (b1.getD j tyT.zero)).cells.getD 1 undef).toL Tl.open_] = true := by rw [hx, hy]; exact ask_true ⟨s1, t1, rfl, l1⟩
  have e1 : ask (AV.lst 5 ((tyT.elem (a1.getD j tyT.zero)).cells.getD 1 undef).toL Tl.open_ = AV.lst 5 ((tyT.elem (b1.getD j tyT.zero)).cells.getD 1 undef).toL Tl.open_) = ask (s1 = t1) := by rw [hx, hy]; exact ask_LL tyC s1 t1
  have hS : (askS
  [AV.ptr (0 : Nat) (0 : Nat), AV.ptr (1 : Nat) (0 : Nat), AV.int IntKind.i64 (j : Int), AV.ptr (2 : Nat) (0 : Nat),
    AV.ptr (3 : Nat) (0 : Nat), AV.int IntKind.i64 (0 : Int)]
  [AV.ptr (0 : Nat) (0 : Nat), AV.ptr (1 : Nat) (0 : Nat), AV.int IntKind.i64 (j : Int), AV.ptr (2 : Nat) (0 : Nat),
    AV.ptr (3 : Nat) (0 : Nat), AV.int IntKind.i64 (↑(0 : Nat) : Int)]
  [Blk.var [AV.lst (5 : Nat) (List.map tyK.elem a0) Tl.open_, AV.lst (3 : Nat) (List.map tyT.elem a1) Tl.open_],
    Blk.var [AV.lst (5 : Nat) (List.map tyK.elem b0) Tl.open_, AV.lst (3 : Nat) (List.map tyT.elem b1) Tl.open_],
    Blk.var
      [AV.str ((tyT.elem (a1.getD j tyT.zero)).cells.getD (0 : Nat) undef).toS,
        AV.lst (5 : Nat) ((tyT.elem (a1.getD j tyT.zero)).cells.getD (1 : Nat) undef).toL Tl.open_,
        AV.lst (4 : Nat) ((tyT.elem (a1.getD j tyT.zero)).cells.getD (2 : Nat) undef).toL Tl.open_],
    Blk.var
      [AV.str ((tyT.elem (b1.getD j tyT.zero)).cells.getD (0 : Nat) undef).toS,
        AV.lst (5 : Nat) ((tyT.elem (b1.getD j tyT.zero)).cells.getD (1 : Nat) undef).toL Tl.open_,
        AV.lst (4 : Nat) ((tyT.elem (b1.getD j tyT.zero)).cells.getD (2 : Nat) undef).toL Tl.open_]]
  [Blk.var [AV.lst (5 : Nat) (List.map tyK.elem a0) Tl.open_, AV.lst (3 : Nat) (List.map tyT.elem a1) Tl.open_],
    Blk.var [AV.lst (5 : Nat) (List.map tyK.elem b0) Tl.open_, AV.lst (3 : Nat) (List.map tyT.elem b1) Tl.open_],
    Blk.var
      [AV.str s0, AV.lst (5 : Nat) (List.map tyC.elem s1) Tl.open_, AV.lst (4 : Nat) (List.map tyV.elem s2) Tl.open_],
    Blk.var
      [AV.str t0, AV.lst (5 : Nat) (List.map tyC.elem t1) Tl.open_, AV.lst (4 : Nat) (List.map tyV.elem t2) Tl.open_]]) = true := by rw [hx, hy]; exact askS_self _ _
  have hsm := same20 s0 s1 s2 t0 t1 t2
  rw [hx, hy]
  have dl : (!decide ((((tyT.elem (a1.getD j tyT.zero)).cells.getD 2 undef).toL.length : Int) = (((tyT.elem (b1.getD j tyT.zero)).cells.getD 2 undef).toL.length : Int))) = !decide (((s2.map tyV.elem).length : Int) = ((t2.map tyV.elem).length : Int)) := by rw [hx, hy]; rfl
  have hsl : ∀ (x : AV) (j : Int), ∀ q, q ∈ [(2, AV.ptr 0 0), (3, AV.ptr 1 0), (6, AV.int .i64 j)] → frm ([2,3,4,6].zip [AV.ptr 0 0, AV.ptr 1 0, x, AV.int .i64 j]) q.1 = q.2 ∧ (noRef q.2 = true ∨ q.2 = .ptr 0 0 ∨ q.2 = .ptr 1 0) ∧ isFsl q.2 = false := by
    intro x j q hq
    simp only [List.mem_cons, List.not_mem_nil, or_false] at hq
    rcases hq with rfl | rfl | rfl
    · exact ⟨rfl, .inr (.inl rfl), rfl⟩
    · exact ⟨rfl, .inr (.inr rfl), rfl⟩
    · exact ⟨rfl, .inl rfl, rfl⟩
  have hrt : ∀ (x y z : AV), ∀ q, q ∈ [(4, AV.bool false)] → frm ([2,3,4,6].zip [x, y, .bool false, z]) q.1 = q.2 ∧ (noRef q.2 = true ∨ q.2 = .ptr 0 0 ∨ q.2 = .ptr 1 0) ∧ isFsl q.2 = false := by
    intro x y z q hq
    simp only [List.mem_cons, List.not_mem_nil, or_false] at hq
    rcases hq with rfl
    exact ⟨rfl, .inl rfl, rfl⟩
  by_cases hm : s2.length = t2.length
  · obtain ⟨i1, i2⟩ := inner8 a0 a1 b0 b1 s0 s1 s2 t0 t1 t2 j hm l2 ho.2.2.2
    have dl2 : (!decide (((s2.map tyV.elem).length : Int) = ((t2.map tyV.elem).length : Int))) = false := by simp; omega
    by_cases he2 : s2 = t2
    · have hk : KOK E0 130 [] (bodyOf Tryz.f8) (kAt [1,1,1,0,1,0,0,1,0,0,1,1,1,1] (st8i j 0) (hi8 a0 a1 b0 b1 s0 s1 s2 t0 t1 t2) .normal [(2, .ptr 0 0), (3, .ptr 1 0), (6, .int .i64 j)] (hi8 a0 a1 b0 b1 s0 s1 s2 t0 t1 t2)) := kAt_ok (i1 he2)
      have ht := p8on a0 a1 b0 b1 s0 s1 s2 t0 t1 t2 j
      rw [idx_ok hj f0, idx_ok hjm f0, lt_ok hj, Int.toNat_natCast, getD_elem hj, getD_elem hjm, wrap_next (by omega), d0, q1, e1, dl, dl2, hS] at ht
      refine ⟨fun he => ?_, fun he => ?_⟩
      · have h2 : _ = true := hsm.symm.trans (ask_true he)
        clear hsm he
        generalize decide (s0 = t0) = c0 at ht h2
        generalize ask (s1 = t1) = c1 at ht h2
        cases c0 <;> cases c1 <;> first | (simp at h2; done) | exact seen8o a0 a1 b0 b1 (extra := [.var _, .var _]) hk rfl (congrArg T.run ht) (hsl _ _)
      · have h2 : _ = false := hsm.symm.trans (ask_false he)
        rw [ask_true he2] at h2
        clear hsm he
        generalize decide (s0 = t0) = c0 at ht h2
        generalize ask (s1 = t1) = c1 at ht h2
        cases c0 <;> cases c1 <;> first | (simp at h2; done) | exact seen8o a0 a1 b0 b1 (extra := [.var _, .var _]) hk rfl (congrArg T.run ht) (hrt _ _ _)
    · have hk : KOK E0 130 [] (bodyOf Tryz.f8) (kAt [1,1,1,0,1,0,0,1,0,0,1,1,1,1] (st8i j 0) (hi8 a0 a1 b0 b1 s0 s1 s2 t0 t1 t2) .ret [(4, .bool false)] (hi8 a0 a1 b0 b1 s0 s1 s2 t0 t1 t2)) := kAt_ok (i2 he2)
      have ht := p8or a0 a1 b0 b1 s0 s1 s2 t0 t1 t2 j
      rw [idx_ok hj f0, idx_ok hjm f0, lt_ok hj, Int.toNat_natCast, getD_elem hj, getD_elem hjm, d0, q1, e1, dl, dl2, hS] at ht
      refine ⟨fun he => absurd (by cases he; rfl) he2, fun he => ?_⟩
      clear hsm he
      generalize decide (s0 = t0) = c0 at ht
      generalize ask (s1 = t1) = c1 at ht
      cases c0 <;> cases c1 <;> exact seen8o a0 a1 b0 b1 (extra := [.var _, .var _]) hk rfl (congrArg T.run ht) (hrt _ _ _)
  · have dl2 : (!decide (((s2.map tyV.elem).length : Int) = ((t2.map tyV.elem).length : Int))) = true := by simp; omega
    have ht := p8ox a0 a1 b0 b1 s0 s1 s2 t0 t1 t2 j
    rw [idx_ok hj f0, idx_ok hjm f0, lt_ok hj, Int.toNat_natCast, getD_elem hj, getD_elem hjm, d0, q1, e1, dl, dl2] at ht
    refine ⟨fun he => absurd (by cases he; rfl) hm, fun he => ?_⟩
    clear hsm he
    generalize decide (s0 = t0) = c0 at ht
    generalize ask (s1 = t1) = c1 at ht
    cases c0 <;> cases c1 <;> exact seen8o a0 a1 b0 b1 (extra := [.var _, .var _]) (kNo_ok (p := [1,1,1,0,1,0,0,1,0,0,1,1,1,1])) rfl (congrArg T.run ht) (hrt _ _ _)
theorem out8o (a0 : List tyK.I) (a1 : List tyT.I) (b0 : List tyK.I) (b1 : List tyT.I) : Tri E0 130 [] (sub (bodyOf Tryz.f8) [1,1,1,0,1,0,0]) (frm (st8b a1.length)) (hm8 a0 a1 b0 b1) (.exit 2) (frm (st8b a1.length)) (hm8 a0 a1 b0 b1) := by
  have ht := p8ox a0 a1 b0 b1 .empty [] [] .empty [] [] a1.length
  rw [lt_no] at ht
  refine seen8o a0 a1 b0 b1 (extra := []) (kNo_ok (p := [1,1,1,0,1,0,0,1,0,0,1,1,1,1])) rfl (congrArg T.run ht) (fun q hq => ?_)
  simp only [st8b, List.mem_cons, List.not_mem_nil, or_false] at hq
  rcases hq with rfl | rfl | rfl
  · exact ⟨rfl, .inr (.inl rfl), rfl⟩
  · exact ⟨rfl, .inr (.inr rfl), rfl⟩
  · exact ⟨rfl, .inl rfl, rfl⟩
theorem go8a (a0 : List tyK.I) (a1 : List tyT.I) (b0 : List tyK.I) (b1 : List tyT.I) (hlen : b0.length = a0.length) (hl : a0.length < 1000000000000000) (hok : ∀ x, x ∈ a0 → tyK.okay x) (j : Nat) (hj : j < a0.length) :
    (a0.getD j tyK.zero = b0.getD j tyK.zero → Tri E0 130 [] (sub (bodyOf Tryz.f8) [1,1,0,1,0,0]) (frm (st8a j)) (hm8 a0 a1 b0 b1) .normal (frm (st8a (j + 1))) (hm8 a0 a1 b0 b1)) ∧
    (a0.getD j tyK.zero ≠ b0.getD j tyK.zero → Tri E0 130 [] (sub (bodyOf Tryz.f8) [1,1,0,1,0,0]) (frm (st8a j)) (hm8 a0 a1 b0 b1) .ret (frm [(4, .bool false)]) (hm8 a0 a1 b0 b1)) := by
  have ht := p8a a0 a1 b0 b1 j
  have hjm : j < b0.length := by omega
  have f0 : fitsC Tryz.prog 37 (tyK.elem tyK.zero) = true := by kernel_rfl
  have hx : tyK.okay (a0.getD j tyK.zero) := hok _ (by rw [List.getD_eq_getElem?_getD, List.getElem?_eq_getElem hj]; exact List.getElem_mem hj)
  have hq : askQ (clEE 25 tyK).2 [tyK.elem (a0.getD j tyK.zero), tyK.elem (b0.getD j tyK.zero)] = true := ask_true ⟨_, _, rfl, hx⟩
  rw [idx_ok hj f0, idx_ok hjm f0, lt_ok hj, Int.toNat_natCast, getD_elem hj, getD_elem hjm, shape_tyK, shape_tyK, hq, ask_EE tyK, wrap_next (by omega)] at ht
  refine ⟨fun he => ?_, fun he => ?_⟩
  · rw [ask_true he] at ht
    refine seen8o a0 a1 b0 b1 (extra := []) KOK.none rfl (congrArg T.run ht) (fun q hq => ?_)
    simp only [st8a, List.mem_cons, List.not_mem_nil, or_false] at hq
    rcases hq with rfl | rfl | rfl
    · exact ⟨rfl, .inr (.inl rfl), rfl⟩
    · exact ⟨rfl, .inr (.inr rfl), rfl⟩
    · exact ⟨rfl, .inl rfl, rfl⟩
  · rw [ask_false he] at ht
    refine seen8o a0 a1 b0 b1 (extra := []) KOK.none rfl (congrArg T.run ht) (fun q hq => ?_)
    simp only [List.mem_cons, List.not_mem_nil, or_false] at hq
    rcases hq with rfl
    exact ⟨rfl, .inl rfl, rfl⟩
theorem out8a (a0 : List tyK.I) (a1 : List tyT.I) (b0 : List tyK.I) (b1 : List tyT.I) : Tri E0 130 [] (sub (bodyOf Tryz.f8) [1,1,0,1,0,0]) (frm (st8a a0.length)) (hm8 a0 a1 b0 b1) (.exit 0) (frm (st8a a0.length)) (hm8 a0 a1 b0 b1) := by
  have ht := p8a a0 a1 b0 b1 a0.length
  rw [lt_no] at ht
  refine seen8o a0 a1 b0 b1 (extra := []) KOK.none rfl (congrArg T.run ht) (fun q hq => ?_)
  simp only [st8a, List.mem_cons, List.not_mem_nil, or_false] at hq
  rcases hq with rfl | rfl | rfl
  · exact ⟨rfl, .inr (.inl rfl), rfl⟩
  · exact ⟨rfl, .inr (.inr rfl), rfl⟩
  · exact ⟨rfl, .inl rfl, rfl⟩
theorem p8nn (a0 : List tyK.I) (a1 : List tyT.I) (b0 : List tyK.I) (b1 : List tyT.I) : runV (XC 8 [19,27,32,46,51,69,77,85,90,108,115,122,129] [clEE 25 tyK, clLL 26 tyC, clLL 27 tyI]) (kTwo (kAt [1,1,0,1] (st8a 0) [.var [encL tyK a0, encL tyT a1], .var [encL tyK b0, encL tyT b1]] .normal (st8a a0.length) [.var [encL tyK a0, encL tyT a1], .var [encL tyK b0, encL tyT b1]]) (kAt [1,1,1,0,1] (st8b 0) [.var [encL tyK a0, encL tyT a1], .var [encL tyK b0, encL tyT b1]] .normal (st8b a1.length) [.var [encL tyK a0, encL tyT a1], .var [encL tyK b0, encL tyT b1]])) Tryz.f8 (bodyOf Tryz.f8) [.agg [encL tyK a0, encL tyT a1], .agg [encL tyK b0, encL tyT b1]] =
  (T.br (!decide ((↑(List.map tyK.elem a0).length : Int) = (↑(List.map tyK.elem b0).length : Int)))
    (T.br true
      (T.leaf (AV.bool false))
      (T.br (askS [AV.ptr (0 : Nat) (0 : Nat), AV.ptr (1 : Nat) (0 : Nat), AV.int IntKind.i64 (0 : Int)]
  [AV.ptr (0 : Nat) (0 : Nat), AV.ptr (1 : Nat) (0 : Nat), AV.int IntKind.i64 (↑(0 : Nat) : Int)]
  [Blk.var [AV.lst (5 : Nat) (List.map tyK.elem a0) Tl.open_, AV.lst (3 : Nat) (List.map tyT.elem a1) Tl.open_],
    Blk.var [AV.lst (5 : Nat) (List.map tyK.elem b0) Tl.open_, AV.lst (3 : Nat) (List.map tyT.elem b1) Tl.open_]]
  [Blk.var [AV.lst (5 : Nat) (List.map tyK.elem a0) Tl.open_, AV.lst (3 : Nat) (List.map tyT.elem a1) Tl.open_],
    Blk.var [AV.lst (5 : Nat) (List.map tyK.elem b0) Tl.open_, AV.lst (3 : Nat) (List.map tyT.elem b1) Tl.open_]])
        (T.br (askS [AV.ptr (0 : Nat) (0 : Nat), AV.ptr (1 : Nat) (0 : Nat), AV.int IntKind.i64 (0 : Int)]
  [AV.ptr (0 : Nat) (0 : Nat), AV.ptr (1 : Nat) (0 : Nat), AV.int IntKind.i64 (↑(0 : Nat) : Int)]
  [Blk.var [AV.lst (5 : Nat) (List.map tyK.elem a0) Tl.open_, AV.lst (3 : Nat) (List.map tyT.elem a1) Tl.open_],
    Blk.var [AV.lst (5 : Nat) (List.map tyK.elem b0) Tl.open_, AV.lst (3 : Nat) (List.map tyT.elem b1) Tl.open_]]
  [Blk.var [AV.lst (5 : Nat) (List.map tyK.elem a0) Tl.open_, AV.lst (3 : Nat) (List.map tyT.elem a1) Tl.open_],
    Blk.var [AV.lst (5 : Nat) (List.map tyK.elem b0) Tl.open_, AV.lst (3 : Nat) (List.map tyT.elem b1) Tl.open_]])
          (T.leaf (AV.bool true))
          T.fail)
        T.fail))
    (T.br (!decide ((↑(List.map tyT.elem a1).length : Int) = (↑(List.map tyT.elem b1).length : Int)))
      (T.leaf (AV.bool false))
      (T.br (askS [AV.ptr (0 : Nat) (0 : Nat), AV.ptr (1 : Nat) (0 : Nat), AV.int IntKind.i64 (0 : Int)]
  [AV.ptr (0 : Nat) (0 : Nat), AV.ptr (1 : Nat) (0 : Nat), AV.int IntKind.i64 (↑(0 : Nat) : Int)]
  [Blk.var [AV.lst (5 : Nat) (List.map tyK.elem a0) Tl.open_, AV.lst (3 : Nat) (List.map tyT.elem a1) Tl.open_],
    Blk.var [AV.lst (5 : Nat) (List.map tyK.elem b0) Tl.open_, AV.lst (3 : Nat) (List.map tyT.elem b1) Tl.open_]]
  [Blk.var [AV.lst (5 : Nat) (List.map tyK.elem a0) Tl.open_, AV.lst (3 : Nat) (List.map tyT.elem a1) Tl.open_],
    Blk.var [AV.lst (5 : Nat) (List.map tyK.elem b0) Tl.open_, AV.lst (3 : Nat) (List.map tyT.elem b1) Tl.open_]])
        (T.br (askS [AV.ptr (0 : Nat) (0 : Nat), AV.ptr (1 : Nat) (0 : Nat), AV.int IntKind.i64 (0 : Int)]
  [AV.ptr (0 : Nat) (0 : Nat), AV.ptr (1 : Nat) (0 : Nat), AV.int IntKind.i64 (↑(0 : Nat) : Int)]
  [Blk.var [AV.lst (5 : Nat) (List.map tyK.elem a0) Tl.open_, AV.lst (3 : Nat) (List.map tyT.elem a1) Tl.open_],
    Blk.var [AV.lst (5 : Nat) (List.map tyK.elem b0) Tl.open_, AV.lst (3 : Nat) (List.map tyT.elem b1) Tl.open_]]
  [Blk.var [AV.lst (5 : Nat) (List.map tyK.elem a0) Tl.open_, AV.lst (3 : Nat) (List.map tyT.elem a1) Tl.open_],
    Blk.var [AV.lst (5 : Nat) (List.map tyK.elem b0) Tl.open_, AV.lst (3 : Nat) (List.map tyT.elem b1) Tl.open_]])
          (T.leaf (AV.bool true))
          T.fail)
        T.fail))) := by kernel_rfl
theorem p8nr (a0 : List tyK.I) (a1 : List tyT.I) (b0 : List tyK.I) (b1 : List tyT.I) : runV (XC 8 [19,27,32,46,51,69,77,85,90,108,115,122,129] [clEE 25 tyK, clLL 26 tyC, clLL 27 tyI]) (kTwo (kAt [1,1,0,1] (st8a 0) [.var [encL tyK a0, encL tyT a1], .var [encL tyK b0, encL tyT b1]] .normal (st8a a0.length) [.var [encL tyK a0, encL tyT a1], .var [encL tyK b0, encL tyT b1]]) (kAt [1,1,1,0,1] (st8b 0) [.var [encL tyK a0, encL tyT a1], .var [encL tyK b0, encL tyT b1]] .ret [(4, .bool false)] [.var [encL tyK a0, encL tyT a1], .var [encL tyK b0, encL tyT b1]])) Tryz.f8 (bodyOf Tryz.f8) [.agg [encL tyK a0, encL tyT a1], .agg [encL tyK b0, encL tyT b1]] =
  (T.br (!decide ((↑(List.map tyK.elem a0).length : Int) = (↑(List.map tyK.elem b0).length : Int)))
    (T.br true
      (T.leaf (AV.bool false))
      (T.br (askS [AV.ptr (0 : Nat) (0 : Nat), AV.ptr (1 : Nat) (0 : Nat), AV.int IntKind.i64 (0 : Int)]
  [AV.ptr (0 : Nat) (0 : Nat), AV.ptr (1 : Nat) (0 : Nat), AV.int IntKind.i64 (↑(0 : Nat) : Int)]
  [Blk.var [AV.lst (5 : Nat) (List.map tyK.elem a0) Tl.open_, AV.lst (3 : Nat) (List.map tyT.elem a1) Tl.open_],
    Blk.var [AV.lst (5 : Nat) (List.map tyK.elem b0) Tl.open_, AV.lst (3 : Nat) (List.map tyT.elem b1) Tl.open_]]
  [Blk.var [AV.lst (5 : Nat) (List.map tyK.elem a0) Tl.open_, AV.lst (3 : Nat) (List.map tyT.elem a1) Tl.open_],
    Blk.var [AV.lst (5 : Nat) (List.map tyK.elem b0) Tl.open_, AV.lst (3 : Nat) (List.map tyT.elem b1) Tl.open_]])
        (T.br (askS [AV.ptr (0 : Nat) (0 : Nat), AV.ptr (1 : Nat) (0 : Nat), AV.int IntKind.i64 (0 : Int)]
  [AV.ptr (0 : Nat) (0 : Nat), AV.ptr (1 : Nat) (0 : Nat), AV.int IntKind.i64 (↑(0 : Nat) : Int)]
  [Blk.var [AV.lst (5 : Nat) (List.map tyK.elem a0) Tl.open_, AV.lst (3 : Nat) (List.map tyT.elem a1) Tl.open_],
    Blk.var [AV.lst (5 : Nat) (List.map tyK.elem b0) Tl.open_, AV.lst (3 : Nat) (List.map tyT.elem b1) Tl.open_]]
  [Blk.var [AV.lst (5 : Nat) (List.map tyK.elem a0) Tl.open_, AV.lst (3 : Nat) (List.map tyT.elem a1) Tl.open_],
    Blk.var [AV.lst (5 : Nat) (List.map tyK.elem b0) Tl.open_, AV.lst (3 : Nat) (List.map tyT.elem b1) Tl.open_]])
          (T.leaf (AV.bool false))
          T.fail)
        T.fail))
    (T.br (!decide ((↑(List.map tyT.elem a1).length : Int) = (↑(List.map tyT.elem b1).length : Int)))
      (T.leaf (AV.bool false))
      (T.br (askS [AV.ptr (0 : Nat) (0 : Nat), AV.ptr (1 : Nat) (0 : Nat), AV.int IntKind.i64 (0 : Int)]
  [AV.ptr (0 : Nat) (0 : Nat), AV.ptr (1 : Nat) (0 : Nat), AV.int IntKind.i64 (↑(0 : Nat) : Int)]
  [Blk.var [AV.lst (5 : Nat) (List.map tyK.elem a0) Tl.open_, AV.lst (3 : Nat) (List.map tyT.elem a1) Tl.open_],
    Blk.var [AV.lst (5 : Nat) (List.map tyK.elem b0) Tl.open_, AV.lst (3 : Nat) (List.map tyT.elem b1) Tl.open_]]
  [Blk.var [AV.lst (5 : Nat) (List.map tyK.elem a0) Tl.open_, AV.lst (3 : Nat) (List.map tyT.elem a1) Tl.open_],
    Blk.var [AV.lst (5 : Nat) (List.map tyK.elem b0) Tl.open_, AV.lst (3 : Nat) (List.map tyT.elem b1) Tl.open_]])
        (T.br (askS [AV.ptr (0 : Nat) (0 : Nat), AV.ptr (1 : Nat) (0 : Nat), AV.int IntKind.i64 (0 : Int)]
  [AV.ptr (0 : Nat) (0 : Nat), AV.ptr (1 : Nat) (0 : Nat), AV.int IntKind.i64 (↑(0 : Nat) : Int)]
  [Blk.var [AV.lst (5 : Nat) (List.map tyK.elem a0) Tl.open_, AV.lst (3 : Nat) (List.map tyT.elem a1) Tl.open_],
    Blk.var [AV.lst (5 : Nat) (List.map tyK.elem b0) Tl.open_, AV.lst (3 : Nat) (List.map tyT.elem b1) Tl.open_]]
  [Blk.var [AV.lst (5 : Nat) (List.map tyK.elem a0) Tl.open_, AV.lst (3 : Nat) (List.map tyT.elem a1) Tl.open_],
    Blk.var [AV.lst (5 : Nat) (List.map tyK.elem b0) Tl.open_, AV.lst (3 : Nat) (List.map tyT.elem b1) Tl.open_]])
          (T.leaf (AV.bool false))
          T.fail)
        T.fail))) := by kernel_rfl
theorem p8r (a0 : List tyK.I) (a1 : List tyT.I) (b0 : List tyK.I) (b1 : List tyT.I) : runV (XC 8 [19,27,32,46,51,69,77,85,90,108,115,122,129] [clEE 25 tyK, clLL 26 tyC, clLL 27 tyI]) (kTwo (kAt [1,1,0,1] (st8a 0) [.var [encL tyK a0, encL tyT a1], .var [encL tyK b0, encL tyT b1]] .ret [(4, .bool false)] [.var [encL tyK a0, encL tyT a1], .var [encL tyK b0, encL tyT b1]]) (kNo [1,1,1,0,1])) Tryz.f8 (bodyOf Tryz.f8) [.agg [encL tyK a0, encL tyT a1], .agg [encL tyK b0, encL tyT b1]] =
  (T.br (!decide ((↑(List.map tyK.elem a0).length : Int) = (↑(List.map tyK.elem b0).length : Int)))
    (T.br true
      (T.leaf (AV.bool false))
      (T.br (askS [AV.ptr (0 : Nat) (0 : Nat), AV.ptr (1 : Nat) (0 : Nat), AV.int IntKind.i64 (0 : Int)]
  [AV.ptr (0 : Nat) (0 : Nat), AV.ptr (1 : Nat) (0 : Nat), AV.int IntKind.i64 (↑(0 : Nat) : Int)]
  [Blk.var [AV.lst (5 : Nat) (List.map tyK.elem a0) Tl.open_, AV.lst (3 : Nat) (List.map tyT.elem a1) Tl.open_],
    Blk.var [AV.lst (5 : Nat) (List.map tyK.elem b0) Tl.open_, AV.lst (3 : Nat) (List.map tyT.elem b1) Tl.open_]]
  [Blk.var [AV.lst (5 : Nat) (List.map tyK.elem a0) Tl.open_, AV.lst (3 : Nat) (List.map tyT.elem a1) Tl.open_],
    Blk.var [AV.lst (5 : Nat) (List.map tyK.elem b0) Tl.open_, AV.lst (3 : Nat) (List.map tyT.elem b1) Tl.open_]])
        (T.leaf (AV.bool false))
        T.fail))
    (T.br (!decide ((↑(List.map tyT.elem a1).length : Int) = (↑(List.map tyT.elem b1).length : Int)))
      (T.leaf (AV.bool false))
      (T.br (askS [AV.ptr (0 : Nat) (0 : Nat), AV.ptr (1 : Nat) (0 : Nat), AV.int IntKind.i64 (0 : Int)]
  [AV.ptr (0 : Nat) (0 : Nat), AV.ptr (1 : Nat) (0 : Nat), AV.int IntKind.i64 (↑(0 : Nat) : Int)]
  [Blk.var [AV.lst (5 : Nat) (List.map tyK.elem a0) Tl.open_, AV.lst (3 : Nat) (List.map tyT.elem a1) Tl.open_],
    Blk.var [AV.lst (5 : Nat) (List.map tyK.elem b0) Tl.open_, AV.lst (3 : Nat) (List.map tyT.elem b1) Tl.open_]]
  [Blk.var [AV.lst (5 : Nat) (List.map tyK.elem a0) Tl.open_, AV.lst (3 : Nat) (List.map tyT.elem a1) Tl.open_],
    Blk.var [AV.lst (5 : Nat) (List.map tyK.elem b0) Tl.open_, AV.lst (3 : Nat) (List.map tyT.elem b1) Tl.open_]])
        (T.leaf (AV.bool false))
        T.fail))) := by kernel_rfl
theorem p8x (a0 : List tyK.I) (a1 : List tyT.I) (b0 : List tyK.I) (b1 : List tyT.I) : runV (XC 8 [19,27,32,46,51,69,77,85,90,108,115,122,129] [clEE 25 tyK, clLL 26 tyC, clLL 27 tyI]) (kTwo (kNo [1,1,0,1]) (kNo [1,1,1,0,1])) Tryz.f8 (bodyOf Tryz.f8) [.agg [encL tyK a0, encL tyT a1], .agg [encL tyK b0, encL tyT b1]] =
  (T.br (!decide ((↑(List.map tyK.elem a0).length : Int) = (↑(List.map tyK.elem b0).length : Int)))
    (T.br true
      (T.leaf (AV.bool false))
      T.fail)
    (T.br (!decide ((↑(List.map tyT.elem a1).length : Int) = (↑(List.map tyT.elem b1).length : Int)))
      (T.leaf (AV.bool false))
      T.fail)) := by kernel_rfl
theorem con8r (a0 : List tyK.I) (a1 : List tyT.I) (b0 : List tyK.I) (b1 : List tyT.I) (l0 : a0.length < 1000000000000000) (o0 : ∀ x, x ∈ a0 → tyK.okay x) (l1 : a1.length < 1000000000000000) (o1 : ∀ x, x ∈ a1 → tyT.okay x) (h : H) :
    Con E0 8 [tyB.elem (a0, a1), tyB.elem (b0, b1)] h (.bool (ask (((a0, a1) : List tyK.I × List tyT.I) = (b0, b1)))) h := by
  have fin : ∀ {K : Known}, KOK E0 130 [] (bodyOf Tryz.f8) K → (runV (XC 8 [19,27,32,46,51,69,77,85,90,108,115,122,129] [clEE 25 tyK, clLL 26 tyC, clLL 27 tyI]) K Tryz.f8 (bodyOf Tryz.f8) [tyB.elem (a0, a1), tyB.elem (b0, b1)]).run = .ok (.bool (ask (a0 = b0) && ask (a1 = b1))) → Con E0 8 [tyB.elem (a0, a1), tyB.elem (b0, b1)] h (.bool (ask (((a0, a1) : List tyK.I × List tyT.I) = (b0, b1)))) h := fun hk hr => by
    rw [ask_pair]
    exact Con.pureV (X := XC 8 [19,27,32,46,51,69,77,85,90,108,115,122,129] [clEE 25 tyK, clLL 26 tyC, clLL 27 tyI]) g0 noG0 (calls8 rfl rfl) (fn := Tryz.f8) Tryz.func8 (c := bodyOf Tryz.f8) rfl rfl (args := [tyB.elem (a0, a1), tyB.elem (b0, b1)]) hk (noRefs2 tyB _ _) hr (Le.refl _) rfl h
  by_cases hm : a0.length = b0.length ∧ a1.length = b1.length
  · obtain ⟨m0, m1⟩ := hm
    have d0 : (!decide ((((a0.map tyK.elem).length : Nat) : Int) = (((b0.map tyK.elem).length : Nat) : Int))) = false := by simp; omega
    have d1 : (!decide ((((a1.map tyT.elem).length : Nat) : Int) = (((b1.map tyT.elem).length : Nat) : Int))) = false := by simp; omega
    obtain ⟨r1, r2⟩ := eq_rounds (L := a0) (M := b0) (z := tyK.zero) (st := st8a) (hm := (hm8 a0 a1 b0 b1)) (rt := [(4, .bool false)]) (id := 0) m0.symm (fun j hj => (go8a a0 a1 b0 b1 m0.symm l0 o0 j hj).1) (fun j hj => (go8a a0 a1 b0 b1 m0.symm l0 o0 j hj).2) (out8a a0 a1 b0 b1)
    have hgo : ∀ j, j < a1.length → (a1.getD j tyT.zero = b1.getD j tyT.zero → Tri E0 130 [] (sub (bodyOf Tryz.f8) [1,1,1,0,1,0,0]) (frm (st8b j)) (hm8 a0 a1 b0 b1) .normal (frm (st8b (j + 1))) (hm8 a0 a1 b0 b1)) ∧
        (a1.getD j tyT.zero ≠ b1.getD j tyT.zero → Tri E0 130 [] (sub (bodyOf Tryz.f8) [1,1,1,0,1,0,0]) (frm (st8b j)) (hm8 a0 a1 b0 b1) .ret (frm [(4, .bool false)]) (hm8 a0 a1 b0 b1)) := fun j hj => by
      obtain ⟨⟨s0, s1, s2⟩, hx⟩ : ∃ x : tyT.I, a1.getD j tyT.zero = x := ⟨_, rfl⟩
      obtain ⟨⟨t0, t1, t2⟩, hy⟩ : ∃ x : tyT.I, b1.getD j tyT.zero = x := ⟨_, rfl⟩
      exact go8o a0 a1 b0 b1 s0 s1 s2 t0 t1 t2 m1.symm l1 o1 j hj hx hy
    obtain ⟨u1, u2⟩ := eq_rounds (L := a1) (M := b1) (z := tyT.zero) (st := st8b) (hm := (hm8 a0 a1 b0 b1)) (rt := [(4, .bool false)]) (id := 2) m1.symm (fun j hj => (hgo j hj).1) (fun j hj => (hgo j hj).2) (out8o a0 a1 b0 b1)
    have hS : (askS [AV.ptr (0 : Nat) (0 : Nat), AV.ptr (1 : Nat) (0 : Nat), AV.int IntKind.i64 (0 : Int)]
  [AV.ptr (0 : Nat) (0 : Nat), AV.ptr (1 : Nat) (0 : Nat), AV.int IntKind.i64 (↑(0 : Nat) : Int)]
  [Blk.var [AV.lst (5 : Nat) (List.map tyK.elem a0) Tl.open_, AV.lst (3 : Nat) (List.map tyT.elem a1) Tl.open_],
    Blk.var [AV.lst (5 : Nat) (List.map tyK.elem b0) Tl.open_, AV.lst (3 : Nat) (List.map tyT.elem b1) Tl.open_]]
  [Blk.var [AV.lst (5 : Nat) (List.map tyK.elem a0) Tl.open_, AV.lst (3 : Nat) (List.map tyT.elem a1) Tl.open_],
    Blk.var [AV.lst (5 : Nat) (List.map tyK.elem b0) Tl.open_, AV.lst (3 : Nat) (List.map tyT.elem b1) Tl.open_]]) = true := askS_self _ _
    by_cases he0 : a0 = b0
    · have hk0 : KOK E0 130 [] (bodyOf Tryz.f8) (kAt [1,1,0,1] (st8a 0) (hm8 a0 a1 b0 b1) .normal (st8a a0.length) (hm8 a0 a1 b0 b1)) := kAt_ok (Tri.block (id := 0) (Tri.loop (r1 he0)))
      by_cases he1 : a1 = b1
      · have hk1 : KOK E0 130 [] (bodyOf Tryz.f8) (kAt [1,1,1,0,1] (st8b 0) (hm8 a0 a1 b0 b1) .normal (st8b a1.length) (hm8 a0 a1 b0 b1)) := kAt_ok (Tri.block (id := 2) (Tri.loop (u1 he1)))
        have ht := p8nn a0 a1 b0 b1
        rw [d0, d1, hS] at ht
        refine fin (hk0.two hk1) ((congrArg T.run ht).trans ?_)
        rw [ask_true he0, ask_true he1]
        rfl
      · have hk1 : KOK E0 130 [] (bodyOf Tryz.f8) (kAt [1,1,1,0,1] (st8b 0) (hm8 a0 a1 b0 b1) .ret [(4, .bool false)] (hm8 a0 a1 b0 b1)) := kAt_ok (Tri.block (id := 2) (Tri.loop (u2 he1)))
        have ht := p8nr a0 a1 b0 b1
        rw [d0, d1, hS] at ht
        refine fin (hk0.two hk1) ((congrArg T.run ht).trans ?_)
        rw [ask_true he0, ask_false he1]
        rfl
    · have hk0 : KOK E0 130 [] (bodyOf Tryz.f8) (kAt [1,1,0,1] (st8a 0) (hm8 a0 a1 b0 b1) .ret [(4, .bool false)] (hm8 a0 a1 b0 b1)) := kAt_ok (Tri.block (id := 0) (Tri.loop (r2 he0)))
      have ht := p8r a0 a1 b0 b1
      rw [d0, d1, hS] at ht
      refine fin (hk0.two (kNo_ok (p := [1,1,1,0,1]))) ((congrArg T.run ht).trans ?_)
      rw [ask_false he0]
      rfl
  · have ht := p8x a0 a1 b0 b1
    refine fin (.two (kNo_ok (p := [1,1,0,1])) (kNo_ok (p := [1,1,1,0,1]))) ((congrArg T.run ht).trans ?_)
    have hn : (ask (a0 = b0) && ask (a1 = b1)) = false := by
      by_cases m0 : a0.length = b0.length
      · rw [ask_false (p := a1 = b1) (fun h => hm ⟨m0, congrArg List.length h⟩), Bool.and_false]
      · rw [ask_false (p := a0 = b0) (fun h => m0 (congrArg List.length h)), Bool.false_and]
    have hd : (!decide ((((a0.map tyK.elem).length : Nat) : Int) = (((b0.map tyK.elem).length : Nat) : Int))) = true ∨ (!decide ((((a1.map tyT.elem).length : Nat) : Int) = (((b1.map tyT.elem).length : Nat) : Int))) = true := by
      by_cases m0 : a0.length = b0.length
      · right; simp; omega
      · left; simp; omega
    rw [hn]
    generalize (!decide ((((a0.map tyK.elem).length : Nat) : Int) = (((b0.map tyK.elem).length : Nat) : Int))) = u0 at hd ⊢
    generalize (!decide ((((a1.map tyT.elem).length : Nat) : Int) = (((b1.map tyT.elem).length : Nat) : Int))) = u1 at hd ⊢
    rcases hd with rfl | rfl
    · cases u1 <;> rfl
    · cases u0 <;> rfl
theorem con8 (x y : tyB.I) (hx : tyB.okay x) (h : H) : Con E0 8 [tyB.elem x, tyB.elem y] h (.bool (ask (x = y))) h := by
  obtain ⟨a0, a1⟩ := x
  obtain ⟨b0, b1⟩ := y
  exact con8r a0 a1 b0 b1 (Nat.lt_of_le_of_lt hx.1.1 (by decide)) hx.1.2 (Nat.lt_of_le_of_lt hx.2.1 (by decide)) hx.2.2 h
end Go.Proofs.YtaooangghieljaaGreatDoor.AM
