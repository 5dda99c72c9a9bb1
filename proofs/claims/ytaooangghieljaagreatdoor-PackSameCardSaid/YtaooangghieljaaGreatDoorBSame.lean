/- The program's and the document's comparison of two classes, as contracts of the symbolic machine: each is equality. -/
import Derived.Test.YtaooangghieljaaGreatDoorS19
import Derived.Test.YtaooangghieljaaGreatDoorProg
namespace Go.Proofs.YtaooangghieljaaGreatDoor.AM
open Go Go.Proofs Go.RowKit
set_option linter.unusedVariables false
set_option linter.unusedSimpArgs false
abbrev tyC : Ty := (.pair (.int .i64) (.pair (.int .i64) (.pair (.str) (.pair (.str) (.str)))))
abbrev tyF : Ty := (.pair (.str) (.str))
abbrev tyI : Ty := (.pair (.int .i64) (.int .i64))
abbrev tyH : Ty := (.pair (.int .i64) (.pair (.int .i64) (.pair (.int .i64) (.str))))
abbrev tyS : Ty := (.str)
abbrev tyM : Ty := .pair .str (.pair .str (.pair (.int .i64) (.pair (.slice tyI) (.slice tyH))))
abbrev tyK : Ty := .pair .str (.pair .str (.pair (.slice tyC) (.pair (.slice tyF) (.slice tyM))))
noncomputable def E0 : Env := { P := Tryz.prog, C := fun _ _ => none, G := fun _ => none, M := 1000, L := fun _ _ => false, LC := fun _ => false, S := fun t => !Tryz.prog.stoodInHeld t }
def kNo (p : List Nat) : Known := fun q => if q = p then some (fun _ _ => .fail) else none
noncomputable def bodyOf (fn : Func) : Code := (fn.body).getD .skip
noncomputable def XN (f : FuncId) (sp : List Nat) : SX := { E := E0, f := f, con := fun _ => false, split := fun d => sp.contains d, call := fun _ _ _ => .fail }
noncomputable def XC (f : FuncId) (sp : List Nat) (cs : List Cl) : SX := { E := E0, f := f, con := fun _ => false, split := fun d => sp.contains d, call := callsBy cs }
theorem g0 : Ground E0 := ⟨fun t h => by simpa [E0] using h, cok_none (fun _ _ => rfl), bok_none (fun _ => rfl), by kernel_rfl⟩
theorem noG0 : ∀ i cs, E0.G i = some cs → noRefs cs = true := fun i cs h => by simp [E0] at h
theorem kNo_ok {E : Env} {N : Nat} {hb : H} {b : Code} {p : List Nat} : KOK E N hb b (kNo p) := by
  intro q k hk τ h y τ' h1 hr
  simp only [kNo] at hk
  split at hk
  · cases hk; cases hr
  · cases hk
theorem raw_tyC (x0 : Int) (x1 : Int) (x2 : ByteArray) (x3 : ByteArray) (x4 : ByteArray) (y0 : Int) (y1 : Int) (y2 : ByteArray) (y3 : ByteArray) (y4 : ByteArray) : (x0 == y0 && (x1 == y1 && (x2 == y2 && (x3 == y3 && (x4 == y4 && true))))) = true ↔ ((x0, x1, x2, x3, x4) : Int × Int × ByteArray × ByteArray × ByteArray) = ((y0, y1, y2, y3, y4) : Int × Int × ByteArray × ByteArray × ByteArray) := by
  simp only [Bool.and_eq_true, Bool.and_true, beq_iff_eq, ba_beq_iff, Prod.mk.injEq]
theorem cmp_tyC (x y : tyC.I) : (!((((tyC.elem x).cells.getD 0 undef).toI == ((tyC.elem y).cells.getD 0 undef).toI && (((tyC.elem x).cells.getD 1 undef).toI == ((tyC.elem y).cells.getD 1 undef).toI && (((tyC.elem x).cells.getD 2 undef).toS == ((tyC.elem y).cells.getD 2 undef).toS && (((tyC.elem x).cells.getD 3 undef).toS == ((tyC.elem y).cells.getD 3 undef).toS && (((tyC.elem x).cells.getD 4 undef).toS == ((tyC.elem y).cells.getD 4 undef).toS && true))))))) = !ask (x = y) := by
  obtain ⟨x0, x1, x2, x3, x4⟩ := x
  obtain ⟨y0, y1, y2, y3, y4⟩ := y
  congr 1
  apply ask_iff
  exact raw_tyC x0 x1 x2 x3 x4 y0 y1 y2 y3 y4
theorem raw_tyF (x0 : ByteArray) (x1 : ByteArray) (y0 : ByteArray) (y1 : ByteArray) : (x0 == y0 && (x1 == y1 && true)) = true ↔ ((x0, x1) : ByteArray × ByteArray) = ((y0, y1) : ByteArray × ByteArray) := by
  simp only [Bool.and_eq_true, Bool.and_true, beq_iff_eq, ba_beq_iff, Prod.mk.injEq]
theorem cmp_tyF (x y : tyF.I) : (!((((tyF.elem x).cells.getD 0 undef).toS == ((tyF.elem y).cells.getD 0 undef).toS && (((tyF.elem x).cells.getD 1 undef).toS == ((tyF.elem y).cells.getD 1 undef).toS && true)))) = !ask (x = y) := by
  obtain ⟨x0, x1⟩ := x
  obtain ⟨y0, y1⟩ := y
  congr 1
  apply ask_iff
  exact raw_tyF x0 x1 y0 y1
theorem raw_tyI (x0 : Int) (x1 : Int) (y0 : Int) (y1 : Int) : (x0 == y0 && (x1 == y1 && true)) = true ↔ ((x0, x1) : Int × Int) = ((y0, y1) : Int × Int) := by
  simp only [Bool.and_eq_true, Bool.and_true, beq_iff_eq, ba_beq_iff, Prod.mk.injEq]
theorem cmp_tyI (x y : tyI.I) : (!((((tyI.elem x).cells.getD 0 undef).toI == ((tyI.elem y).cells.getD 0 undef).toI && (((tyI.elem x).cells.getD 1 undef).toI == ((tyI.elem y).cells.getD 1 undef).toI && true)))) = !ask (x = y) := by
  obtain ⟨x0, x1⟩ := x
  obtain ⟨y0, y1⟩ := y
  congr 1
  apply ask_iff
  exact raw_tyI x0 x1 y0 y1
theorem raw_tyH (x0 : Int) (x1 : Int) (x2 : Int) (x3 : ByteArray) (y0 : Int) (y1 : Int) (y2 : Int) (y3 : ByteArray) : (x0 == y0 && (x1 == y1 && (x2 == y2 && (x3 == y3 && true)))) = true ↔ ((x0, x1, x2, x3) : Int × Int × Int × ByteArray) = ((y0, y1, y2, y3) : Int × Int × Int × ByteArray) := by
  simp only [Bool.and_eq_true, Bool.and_true, beq_iff_eq, ba_beq_iff, Prod.mk.injEq]
theorem cmp_tyH (x y : tyH.I) : (!((((tyH.elem x).cells.getD 0 undef).toI == ((tyH.elem y).cells.getD 0 undef).toI && (((tyH.elem x).cells.getD 1 undef).toI == ((tyH.elem y).cells.getD 1 undef).toI && (((tyH.elem x).cells.getD 2 undef).toI == ((tyH.elem y).cells.getD 2 undef).toI && (((tyH.elem x).cells.getD 3 undef).toS == ((tyH.elem y).cells.getD 3 undef).toS && true)))))) = !ask (x = y) := by
  obtain ⟨x0, x1, x2, x3⟩ := x
  obtain ⟨y0, y1, y2, y3⟩ := y
  congr 1
  apply ask_iff
  exact raw_tyH x0 x1 x2 x3 y0 y1 y2 y3
def st27 (L M : List tyC.I) (j : Nat) : List (Nat × AV) := [(0, encL tyC L), (1, encL tyC M), (12, .int .i64 (((L.map tyC.elem).length : Nat) : Int)), (13, .int .i64 j)]
theorem p27 (l m : List AV) (n i : Int) : obsK (XN 21 [10,14,24]) (fun _ => none) 26 (sub (bodyOf Tryz.f21) [1,1,0,1,0,0]) [1,1,0,1,0,0] (frm [(0, .lst 5 l .open_), (1, .lst 5 m .open_), (12, .int .i64 n), (13, .int .i64 i)]) [] [0,1,4,12,13] =
  (T.br (decide (i < n))
    (T.br (decide ((0 : Int) ≤ i) && decide (i < (↑l.length : Int)) &&
  fitsC Tryz.prog (57 : Nat) (l.getD i.toNat undef))
      (T.br (decide ((0 : Int) ≤ i) && decide (i < (↑m.length : Int)) &&
  fitsC Tryz.prog (57 : Nat) (m.getD i.toNat undef))
        (T.br (!(((l.getD i.toNat undef).cells.getD (0 : Nat) undef).toI ==
      ((m.getD i.toNat undef).cells.getD (0 : Nat) undef).toI &&
    (((l.getD i.toNat undef).cells.getD (1 : Nat) undef).toI ==
        ((m.getD i.toNat undef).cells.getD (1 : Nat) undef).toI &&
      (((l.getD i.toNat undef).cells.getD (2 : Nat) undef).toS ==
          ((m.getD i.toNat undef).cells.getD (2 : Nat) undef).toS &&
        (((l.getD i.toNat undef).cells.getD (3 : Nat) undef).toS ==
            ((m.getD i.toNat undef).cells.getD (3 : Nat) undef).toS &&
          (((l.getD i.toNat undef).cells.getD (4 : Nat) undef).toS ==
              ((m.getD i.toNat undef).cells.getD (4 : Nat) undef).toS &&
            true))))))
          (T.leaf ((X.ret,
  [AV.lst 5 l Tl.open_, AV.lst 5 m Tl.open_, AV.bool false, AV.int IntKind.i64 n, AV.int IntKind.i64 i], [])))
          (T.leaf ((X.normal,
  [AV.lst 5 l Tl.open_, AV.lst 5 m Tl.open_, AV.fsl 0 [], AV.int IntKind.i64 n,
    AV.int IntKind.i64 (IntKind.i64.wrap (i + 1))],
  []))))
        T.fail)
      T.fail)
    (T.leaf ((X.exit 0,
  [AV.lst 5 l Tl.open_, AV.lst 5 m Tl.open_, AV.fsl 0 [], AV.int IntKind.i64 n, AV.int IntKind.i64 i], [])))) := by kernel_rfl
theorem p27r (L M : List tyC.I) : runV (XN 21 [10,14,24]) (kAt [1,1,0,1] (st27 L M 0) [] .ret [(4, .bool false)] []) Tryz.f21 (bodyOf Tryz.f21) [encL tyC L, encL tyC M] =
  (T.br (!decide ((↑(List.map tyC.elem L).length : Int) = (↑(List.map tyC.elem M).length : Int)))
    (T.leaf (AV.bool false))
    (T.br (askS
  [AV.lst (5 : Nat) (List.map tyC.elem L) Tl.open_, AV.lst (5 : Nat) (List.map tyC.elem M) Tl.open_,
    AV.int IntKind.i64 (↑(List.map tyC.elem L).length : Int), AV.int IntKind.i64 (0 : Int)]
  [AV.lst (5 : Nat) (List.map tyC.elem L) Tl.open_, AV.lst (5 : Nat) (List.map tyC.elem M) Tl.open_,
    AV.int IntKind.i64 (↑(List.map tyC.elem L).length : Int), AV.int IntKind.i64 (↑(0 : Nat) : Int)]
  [] [])
      (T.leaf (AV.bool false))
      T.fail)) := by kernel_rfl
theorem p27n (L M : List tyC.I) : runV (XN 21 [10,14,24]) (kAt [1,1,0,1] (st27 L M 0) [] .normal (st27 L M L.length) []) Tryz.f21 (bodyOf Tryz.f21) [encL tyC L, encL tyC M] =
  (T.br (!decide ((↑(List.map tyC.elem L).length : Int) = (↑(List.map tyC.elem M).length : Int)))
    (T.leaf (AV.bool false))
    (T.br (askS
  [AV.lst (5 : Nat) (List.map tyC.elem L) Tl.open_, AV.lst (5 : Nat) (List.map tyC.elem M) Tl.open_,
    AV.int IntKind.i64 (↑(List.map tyC.elem L).length : Int), AV.int IntKind.i64 (0 : Int)]
  [AV.lst (5 : Nat) (List.map tyC.elem L) Tl.open_, AV.lst (5 : Nat) (List.map tyC.elem M) Tl.open_,
    AV.int IntKind.i64 (↑(List.map tyC.elem L).length : Int), AV.int IntKind.i64 (↑(0 : Nat) : Int)]
  [] [])
      (T.leaf (AV.bool true))
      T.fail)) := by kernel_rfl
theorem p27x (L M : List tyC.I) : runV (XN 21 [10,14,24]) (kNo [1,1,0,1]) Tryz.f21 (bodyOf Tryz.f21) [encL tyC L, encL tyC M] =
  (T.br (!decide ((↑(List.map tyC.elem L).length : Int) = (↑(List.map tyC.elem M).length : Int)))
    (T.leaf (AV.bool false))
    T.fail) := by kernel_rfl
theorem go27 (L M : List tyC.I) (hlen : M.length = L.length) (hl : L.length < 1000000000000000) (j : Nat) (hj : j < L.length) :
    (L.getD j tyC.zero = M.getD j tyC.zero → Tri E0 26 [] (sub (bodyOf Tryz.f21) [1,1,0,1,0,0]) (frm (st27 L M j)) [] .normal (frm (st27 L M (j + 1))) []) ∧
    (L.getD j tyC.zero ≠ M.getD j tyC.zero → Tri E0 26 [] (sub (bodyOf Tryz.f21) [1,1,0,1,0,0]) (frm (st27 L M j)) [] .ret (frm [(4, .bool false)]) []) := by
  have ht := p27 (L.map tyC.elem) (M.map tyC.elem) (((L.map tyC.elem).length : Nat) : Int) j
  have hjm : j < M.length := by omega
  have f0 : fitsC Tryz.prog 57 (tyC.elem tyC.zero) = true := by kernel_rfl
  rw [idx_ok hj f0, idx_ok hjm f0, lt_ok hj, Int.toNat_natCast, getD_elem hj, getD_elem hjm, cmp_tyC, wrap_next (by omega)] at ht
  refine ⟨fun he => ?_, fun he => ?_⟩
  · rw [ask_true he] at ht
    exact Tri.seen (X := XN 21 [10,14,24]) g0 (noCalls fun _ _ _ => rfl) KOK.none rfl (congrArg T.run ht) (by
      intro q hq
      simp only [st27, List.mem_cons, List.not_mem_nil, or_false] at hq
      rcases hq with rfl | rfl | rfl | rfl <;> rfl)
  · rw [ask_false he] at ht
    exact Tri.seen (X := XN 21 [10,14,24]) g0 (noCalls fun _ _ _ => rfl) KOK.none rfl (congrArg T.run ht) (by
      intro q hq
      simp only [List.mem_cons, List.not_mem_nil, or_false] at hq
      rcases hq with rfl; rfl)
theorem out27 (L M : List tyC.I) : Tri E0 26 [] (sub (bodyOf Tryz.f21) [1,1,0,1,0,0]) (frm (st27 L M L.length)) [] (.exit 0) (frm (st27 L M L.length)) [] := by
  have ht := p27 (L.map tyC.elem) (M.map tyC.elem) (((L.map tyC.elem).length : Nat) : Int) L.length
  rw [lt_no] at ht
  exact Tri.seen (X := XN 21 [10,14,24]) g0 (noCalls fun _ _ _ => rfl) KOK.none rfl (congrArg T.run ht) (by
    intro q hq
    simp only [st27, List.mem_cons, List.not_mem_nil, or_false] at hq
    rcases hq with rfl | rfl | rfl | rfl <;> rfl)
theorem con27 (L M : List tyC.I) (hl : L.length < 1000000000000000) (h : H) : Con E0 21 [encL tyC L, encL tyC M] h (.bool (ask (L = M))) h := by
  have hn : noRefs [encL tyC L, encL tyC M] = true := by simp only [noRefs, encL_noRef, Bool.and_true]
  have fin : ∀ {K : Known} {v : AV}, KOK E0 26 [] (bodyOf Tryz.f21) K → (runV (XN 21 [10,14,24]) K Tryz.f21 (bodyOf Tryz.f21) [encL tyC L, encL tyC M]).run = .ok v → v = .bool (ask (L = M)) → Con E0 21 [encL tyC L, encL tyC M] h (.bool (ask (L = M))) h := fun hk hr hv =>
    Con.pureV (X := XN 21 [10,14,24]) g0 noG0 (noCalls fun _ _ _ => rfl) (fn := Tryz.f21) Tryz.func21 (c := bodyOf Tryz.f21) rfl rfl (args := [encL tyC L, encL tyC M]) hk hn hr (hv ▸ Le.refl _) rfl h
  by_cases hm : L.length = M.length
  · have hd : (!decide ((((L.map tyC.elem).length : Nat) : Int) = (((M.map tyC.elem).length : Nat) : Int))) = false := by simp; omega
    obtain ⟨r1, r2⟩ := eq_rounds (L := L) (M := M) (z := tyC.zero) (st := st27 L M) (rt := [(4, .bool false)]) hm.symm (fun j hj => (go27 L M hm.symm hl j hj).1) (fun j hj => (go27 L M hm.symm hl j hj).2) (out27 L M)
    by_cases he : L = M
    · have hk : KOK E0 26 [] (bodyOf Tryz.f21) (kAt [1,1,0,1] (st27 L M 0) [] .normal (st27 L M L.length) []) := kAt_ok (Tri.block (id := 0) (Tri.loop (r1 he)))
      exact fin hk ((congrArg T.run (p27n L M)).trans (bF hd (bS rfl))) (by rw [ask_true he])
    · have hk : KOK E0 26 [] (bodyOf Tryz.f21) (kAt [1,1,0,1] (st27 L M 0) [] .ret [(4, .bool false)] []) := kAt_ok (Tri.block (id := 0) (Tri.loop (r2 he)))
      exact fin hk ((congrArg T.run (p27r L M)).trans (bF hd (bS rfl))) (by rw [ask_false he])
  · have hd : (!decide ((((L.map tyC.elem).length : Nat) : Int) = (((M.map tyC.elem).length : Nat) : Int))) = true := by simp; omega
    exact fin (kNo_ok (p := [1,1,0,1])) ((congrArg T.run (p27x L M)).trans (bT hd rfl)) (by rw [ask_false (fun h => hm (congrArg _ h))])
def st28 (L M : List tyF.I) (j : Nat) : List (Nat × AV) := [(0, encL tyF L), (1, encL tyF M), (12, .int .i64 (((L.map tyF.elem).length : Nat) : Int)), (13, .int .i64 j)]
theorem p28 (l m : List AV) (n i : Int) : obsK (XN 47 [10,14,24]) (fun _ => none) 26 (sub (bodyOf Tryz.f47) [1,1,0,1,0,0]) [1,1,0,1,0,0] (frm [(0, .lst 2 l .open_), (1, .lst 2 m .open_), (12, .int .i64 n), (13, .int .i64 i)]) [] [0,1,4,12,13] =
  (T.br (decide (i < n))
    (T.br (decide ((0 : Int) ≤ i) && decide (i < (↑l.length : Int)) &&
  fitsC Tryz.prog (86 : Nat) (l.getD i.toNat undef))
      (T.br (decide ((0 : Int) ≤ i) && decide (i < (↑m.length : Int)) &&
  fitsC Tryz.prog (86 : Nat) (m.getD i.toNat undef))
        (T.br (!(((l.getD i.toNat undef).cells.getD (0 : Nat) undef).toS ==
      ((m.getD i.toNat undef).cells.getD (0 : Nat) undef).toS &&
    (((l.getD i.toNat undef).cells.getD (1 : Nat) undef).toS ==
        ((m.getD i.toNat undef).cells.getD (1 : Nat) undef).toS &&
      true)))
          (T.leaf ((X.ret,
  [AV.lst 2 l Tl.open_, AV.lst 2 m Tl.open_, AV.bool false, AV.int IntKind.i64 n, AV.int IntKind.i64 i], [])))
          (T.leaf ((X.normal,
  [AV.lst 2 l Tl.open_, AV.lst 2 m Tl.open_, AV.fsl 0 [], AV.int IntKind.i64 n,
    AV.int IntKind.i64 (IntKind.i64.wrap (i + 1))],
  []))))
        T.fail)
      T.fail)
    (T.leaf ((X.exit 0,
  [AV.lst 2 l Tl.open_, AV.lst 2 m Tl.open_, AV.fsl 0 [], AV.int IntKind.i64 n, AV.int IntKind.i64 i], [])))) := by kernel_rfl
theorem p28r (L M : List tyF.I) : runV (XN 47 [10,14,24]) (kAt [1,1,0,1] (st28 L M 0) [] .ret [(4, .bool false)] []) Tryz.f47 (bodyOf Tryz.f47) [encL tyF L, encL tyF M] =
  (T.br (!decide ((↑(List.map tyF.elem L).length : Int) = (↑(List.map tyF.elem M).length : Int)))
    (T.leaf (AV.bool false))
    (T.br (askS
  [AV.lst (2 : Nat) (List.map tyF.elem L) Tl.open_, AV.lst (2 : Nat) (List.map tyF.elem M) Tl.open_,
    AV.int IntKind.i64 (↑(List.map tyF.elem L).length : Int), AV.int IntKind.i64 (0 : Int)]
  [AV.lst (2 : Nat) (List.map tyF.elem L) Tl.open_, AV.lst (2 : Nat) (List.map tyF.elem M) Tl.open_,
    AV.int IntKind.i64 (↑(List.map tyF.elem L).length : Int), AV.int IntKind.i64 (↑(0 : Nat) : Int)]
  [] [])
      (T.leaf (AV.bool false))
      T.fail)) := by kernel_rfl
theorem p28n (L M : List tyF.I) : runV (XN 47 [10,14,24]) (kAt [1,1,0,1] (st28 L M 0) [] .normal (st28 L M L.length) []) Tryz.f47 (bodyOf Tryz.f47) [encL tyF L, encL tyF M] =
  (T.br (!decide ((↑(List.map tyF.elem L).length : Int) = (↑(List.map tyF.elem M).length : Int)))
    (T.leaf (AV.bool false))
    (T.br (askS
  [AV.lst (2 : Nat) (List.map tyF.elem L) Tl.open_, AV.lst (2 : Nat) (List.map tyF.elem M) Tl.open_,
    AV.int IntKind.i64 (↑(List.map tyF.elem L).length : Int), AV.int IntKind.i64 (0 : Int)]
  [AV.lst (2 : Nat) (List.map tyF.elem L) Tl.open_, AV.lst (2 : Nat) (List.map tyF.elem M) Tl.open_,
    AV.int IntKind.i64 (↑(List.map tyF.elem L).length : Int), AV.int IntKind.i64 (↑(0 : Nat) : Int)]
  [] [])
      (T.leaf (AV.bool true))
      T.fail)) := by kernel_rfl
theorem p28x (L M : List tyF.I) : runV (XN 47 [10,14,24]) (kNo [1,1,0,1]) Tryz.f47 (bodyOf Tryz.f47) [encL tyF L, encL tyF M] =
  (T.br (!decide ((↑(List.map tyF.elem L).length : Int) = (↑(List.map tyF.elem M).length : Int)))
    (T.leaf (AV.bool false))
    T.fail) := by kernel_rfl
theorem go28 (L M : List tyF.I) (hlen : M.length = L.length) (hl : L.length < 1000000000000000) (j : Nat) (hj : j < L.length) :
    (L.getD j tyF.zero = M.getD j tyF.zero → Tri E0 26 [] (sub (bodyOf Tryz.f47) [1,1,0,1,0,0]) (frm (st28 L M j)) [] .normal (frm (st28 L M (j + 1))) []) ∧
    (L.getD j tyF.zero ≠ M.getD j tyF.zero → Tri E0 26 [] (sub (bodyOf Tryz.f47) [1,1,0,1,0,0]) (frm (st28 L M j)) [] .ret (frm [(4, .bool false)]) []) := by
  have ht := p28 (L.map tyF.elem) (M.map tyF.elem) (((L.map tyF.elem).length : Nat) : Int) j
  have hjm : j < M.length := by omega
  have f0 : fitsC Tryz.prog 86 (tyF.elem tyF.zero) = true := by kernel_rfl
  rw [idx_ok hj f0, idx_ok hjm f0, lt_ok hj, Int.toNat_natCast, getD_elem hj, getD_elem hjm, cmp_tyF, wrap_next (by omega)] at ht
  refine ⟨fun he => ?_, fun he => ?_⟩
  · rw [ask_true he] at ht
    exact Tri.seen (X := XN 47 [10,14,24]) g0 (noCalls fun _ _ _ => rfl) KOK.none rfl (congrArg T.run ht) (by
      intro q hq
      simp only [st28, List.mem_cons, List.not_mem_nil, or_false] at hq
      rcases hq with rfl | rfl | rfl | rfl <;> rfl)
  · rw [ask_false he] at ht
    exact Tri.seen (X := XN 47 [10,14,24]) g0 (noCalls fun _ _ _ => rfl) KOK.none rfl (congrArg T.run ht) (by
      intro q hq
      simp only [List.mem_cons, List.not_mem_nil, or_false] at hq
      rcases hq with rfl; rfl)
theorem out28 (L M : List tyF.I) : Tri E0 26 [] (sub (bodyOf Tryz.f47) [1,1,0,1,0,0]) (frm (st28 L M L.length)) [] (.exit 0) (frm (st28 L M L.length)) [] := by
  have ht := p28 (L.map tyF.elem) (M.map tyF.elem) (((L.map tyF.elem).length : Nat) : Int) L.length
  rw [lt_no] at ht
  exact Tri.seen (X := XN 47 [10,14,24]) g0 (noCalls fun _ _ _ => rfl) KOK.none rfl (congrArg T.run ht) (by
    intro q hq
    simp only [st28, List.mem_cons, List.not_mem_nil, or_false] at hq
    rcases hq with rfl | rfl | rfl | rfl <;> rfl)
theorem con28 (L M : List tyF.I) (hl : L.length < 1000000000000000) (h : H) : Con E0 47 [encL tyF L, encL tyF M] h (.bool (ask (L = M))) h := by
  have hn : noRefs [encL tyF L, encL tyF M] = true := by simp only [noRefs, encL_noRef, Bool.and_true]
  have fin : ∀ {K : Known} {v : AV}, KOK E0 26 [] (bodyOf Tryz.f47) K → (runV (XN 47 [10,14,24]) K Tryz.f47 (bodyOf Tryz.f47) [encL tyF L, encL tyF M]).run = .ok v → v = .bool (ask (L = M)) → Con E0 47 [encL tyF L, encL tyF M] h (.bool (ask (L = M))) h := fun hk hr hv =>
    Con.pureV (X := XN 47 [10,14,24]) g0 noG0 (noCalls fun _ _ _ => rfl) (fn := Tryz.f47) Tryz.func47 (c := bodyOf Tryz.f47) rfl rfl (args := [encL tyF L, encL tyF M]) hk hn hr (hv ▸ Le.refl _) rfl h
  by_cases hm : L.length = M.length
  · have hd : (!decide ((((L.map tyF.elem).length : Nat) : Int) = (((M.map tyF.elem).length : Nat) : Int))) = false := by simp; omega
    obtain ⟨r1, r2⟩ := eq_rounds (L := L) (M := M) (z := tyF.zero) (st := st28 L M) (rt := [(4, .bool false)]) hm.symm (fun j hj => (go28 L M hm.symm hl j hj).1) (fun j hj => (go28 L M hm.symm hl j hj).2) (out28 L M)
    by_cases he : L = M
    · have hk : KOK E0 26 [] (bodyOf Tryz.f47) (kAt [1,1,0,1] (st28 L M 0) [] .normal (st28 L M L.length) []) := kAt_ok (Tri.block (id := 0) (Tri.loop (r1 he)))
      exact fin hk ((congrArg T.run (p28n L M)).trans (bF hd (bS rfl))) (by rw [ask_true he])
    · have hk : KOK E0 26 [] (bodyOf Tryz.f47) (kAt [1,1,0,1] (st28 L M 0) [] .ret [(4, .bool false)] []) := kAt_ok (Tri.block (id := 0) (Tri.loop (r2 he)))
      exact fin hk ((congrArg T.run (p28r L M)).trans (bF hd (bS rfl))) (by rw [ask_false he])
  · have hd : (!decide ((((L.map tyF.elem).length : Nat) : Int) = (((M.map tyF.elem).length : Nat) : Int))) = true := by simp; omega
    exact fin (kNo_ok (p := [1,1,0,1])) ((congrArg T.run (p28x L M)).trans (bT hd rfl)) (by rw [ask_false (fun h => hm (congrArg _ h))])
def st31 (L M : List tyI.I) (j : Nat) : List (Nat × AV) := [(0, encL tyI L), (1, encL tyI M), (12, .int .i64 (((L.map tyI.elem).length : Nat) : Int)), (13, .int .i64 j)]
theorem p31 (l m : List AV) (n i : Int) : obsK (XN 24 [10,14,24]) (fun _ => none) 26 (sub (bodyOf Tryz.f24) [1,1,0,1,0,0]) [1,1,0,1,0,0] (frm [(0, .lst 2 l .open_), (1, .lst 2 m .open_), (12, .int .i64 n), (13, .int .i64 i)]) [] [0,1,4,12,13] =
  (T.br (decide (i < n))
    (T.br (decide ((0 : Int) ≤ i) && decide (i < (↑l.length : Int)) &&
  fitsC Tryz.prog (61 : Nat) (l.getD i.toNat undef))
      (T.br (decide ((0 : Int) ≤ i) && decide (i < (↑m.length : Int)) &&
  fitsC Tryz.prog (61 : Nat) (m.getD i.toNat undef))
        (T.br (!(((l.getD i.toNat undef).cells.getD (0 : Nat) undef).toI ==
      ((m.getD i.toNat undef).cells.getD (0 : Nat) undef).toI &&
    (((l.getD i.toNat undef).cells.getD (1 : Nat) undef).toI ==
        ((m.getD i.toNat undef).cells.getD (1 : Nat) undef).toI &&
      true)))
          (T.leaf ((X.ret,
  [AV.lst 2 l Tl.open_, AV.lst 2 m Tl.open_, AV.bool false, AV.int IntKind.i64 n, AV.int IntKind.i64 i], [])))
          (T.leaf ((X.normal,
  [AV.lst 2 l Tl.open_, AV.lst 2 m Tl.open_, AV.fsl 0 [], AV.int IntKind.i64 n,
    AV.int IntKind.i64 (IntKind.i64.wrap (i + 1))],
  []))))
        T.fail)
      T.fail)
    (T.leaf ((X.exit 0,
  [AV.lst 2 l Tl.open_, AV.lst 2 m Tl.open_, AV.fsl 0 [], AV.int IntKind.i64 n, AV.int IntKind.i64 i], [])))) := by kernel_rfl
theorem p31r (L M : List tyI.I) : runV (XN 24 [10,14,24]) (kAt [1,1,0,1] (st31 L M 0) [] .ret [(4, .bool false)] []) Tryz.f24 (bodyOf Tryz.f24) [encL tyI L, encL tyI M] =
  (T.br (!decide ((↑(List.map tyI.elem L).length : Int) = (↑(List.map tyI.elem M).length : Int)))
    (T.leaf (AV.bool false))
    (T.br (askS
  [AV.lst (2 : Nat) (List.map tyI.elem L) Tl.open_, AV.lst (2 : Nat) (List.map tyI.elem M) Tl.open_,
    AV.int IntKind.i64 (↑(List.map tyI.elem L).length : Int), AV.int IntKind.i64 (0 : Int)]
  [AV.lst (2 : Nat) (List.map tyI.elem L) Tl.open_, AV.lst (2 : Nat) (List.map tyI.elem M) Tl.open_,
    AV.int IntKind.i64 (↑(List.map tyI.elem L).length : Int), AV.int IntKind.i64 (↑(0 : Nat) : Int)]
  [] [])
      (T.leaf (AV.bool false))
      T.fail)) := by kernel_rfl
theorem p31n (L M : List tyI.I) : runV (XN 24 [10,14,24]) (kAt [1,1,0,1] (st31 L M 0) [] .normal (st31 L M L.length) []) Tryz.f24 (bodyOf Tryz.f24) [encL tyI L, encL tyI M] =
  (T.br (!decide ((↑(List.map tyI.elem L).length : Int) = (↑(List.map tyI.elem M).length : Int)))
    (T.leaf (AV.bool false))
    (T.br (askS
  [AV.lst (2 : Nat) (List.map tyI.elem L) Tl.open_, AV.lst (2 : Nat) (List.map tyI.elem M) Tl.open_,
    AV.int IntKind.i64 (↑(List.map tyI.elem L).length : Int), AV.int IntKind.i64 (0 : Int)]
  [AV.lst (2 : Nat) (List.map tyI.elem L) Tl.open_, AV.lst (2 : Nat) (List.map tyI.elem M) Tl.open_,
    AV.int IntKind.i64 (↑(List.map tyI.elem L).length : Int), AV.int IntKind.i64 (↑(0 : Nat) : Int)]
  [] [])
      (T.leaf (AV.bool true))
      T.fail)) := by kernel_rfl
theorem p31x (L M : List tyI.I) : runV (XN 24 [10,14,24]) (kNo [1,1,0,1]) Tryz.f24 (bodyOf Tryz.f24) [encL tyI L, encL tyI M] =
  (T.br (!decide ((↑(List.map tyI.elem L).length : Int) = (↑(List.map tyI.elem M).length : Int)))
    (T.leaf (AV.bool false))
    T.fail) := by kernel_rfl
theorem go31 (L M : List tyI.I) (hlen : M.length = L.length) (hl : L.length < 1000000000000000) (j : Nat) (hj : j < L.length) :
    (L.getD j tyI.zero = M.getD j tyI.zero → Tri E0 26 [] (sub (bodyOf Tryz.f24) [1,1,0,1,0,0]) (frm (st31 L M j)) [] .normal (frm (st31 L M (j + 1))) []) ∧
    (L.getD j tyI.zero ≠ M.getD j tyI.zero → Tri E0 26 [] (sub (bodyOf Tryz.f24) [1,1,0,1,0,0]) (frm (st31 L M j)) [] .ret (frm [(4, .bool false)]) []) := by
  have ht := p31 (L.map tyI.elem) (M.map tyI.elem) (((L.map tyI.elem).length : Nat) : Int) j
  have hjm : j < M.length := by omega
  have f0 : fitsC Tryz.prog 61 (tyI.elem tyI.zero) = true := by kernel_rfl
  rw [idx_ok hj f0, idx_ok hjm f0, lt_ok hj, Int.toNat_natCast, getD_elem hj, getD_elem hjm, cmp_tyI, wrap_next (by omega)] at ht
  refine ⟨fun he => ?_, fun he => ?_⟩
  · rw [ask_true he] at ht
    exact Tri.seen (X := XN 24 [10,14,24]) g0 (noCalls fun _ _ _ => rfl) KOK.none rfl (congrArg T.run ht) (by
      intro q hq
      simp only [st31, List.mem_cons, List.not_mem_nil, or_false] at hq
      rcases hq with rfl | rfl | rfl | rfl <;> rfl)
  · rw [ask_false he] at ht
    exact Tri.seen (X := XN 24 [10,14,24]) g0 (noCalls fun _ _ _ => rfl) KOK.none rfl (congrArg T.run ht) (by
      intro q hq
      simp only [List.mem_cons, List.not_mem_nil, or_false] at hq
      rcases hq with rfl; rfl)
theorem out31 (L M : List tyI.I) : Tri E0 26 [] (sub (bodyOf Tryz.f24) [1,1,0,1,0,0]) (frm (st31 L M L.length)) [] (.exit 0) (frm (st31 L M L.length)) [] := by
  have ht := p31 (L.map tyI.elem) (M.map tyI.elem) (((L.map tyI.elem).length : Nat) : Int) L.length
  rw [lt_no] at ht
  exact Tri.seen (X := XN 24 [10,14,24]) g0 (noCalls fun _ _ _ => rfl) KOK.none rfl (congrArg T.run ht) (by
    intro q hq
    simp only [st31, List.mem_cons, List.not_mem_nil, or_false] at hq
    rcases hq with rfl | rfl | rfl | rfl <;> rfl)
theorem con31 (L M : List tyI.I) (hl : L.length < 1000000000000000) (h : H) : Con E0 24 [encL tyI L, encL tyI M] h (.bool (ask (L = M))) h := by
  have hn : noRefs [encL tyI L, encL tyI M] = true := by simp only [noRefs, encL_noRef, Bool.and_true]
  have fin : ∀ {K : Known} {v : AV}, KOK E0 26 [] (bodyOf Tryz.f24) K → (runV (XN 24 [10,14,24]) K Tryz.f24 (bodyOf Tryz.f24) [encL tyI L, encL tyI M]).run = .ok v → v = .bool (ask (L = M)) → Con E0 24 [encL tyI L, encL tyI M] h (.bool (ask (L = M))) h := fun hk hr hv =>
    Con.pureV (X := XN 24 [10,14,24]) g0 noG0 (noCalls fun _ _ _ => rfl) (fn := Tryz.f24) Tryz.func24 (c := bodyOf Tryz.f24) rfl rfl (args := [encL tyI L, encL tyI M]) hk hn hr (hv ▸ Le.refl _) rfl h
  by_cases hm : L.length = M.length
  · have hd : (!decide ((((L.map tyI.elem).length : Nat) : Int) = (((M.map tyI.elem).length : Nat) : Int))) = false := by simp; omega
    obtain ⟨r1, r2⟩ := eq_rounds (L := L) (M := M) (z := tyI.zero) (st := st31 L M) (rt := [(4, .bool false)]) hm.symm (fun j hj => (go31 L M hm.symm hl j hj).1) (fun j hj => (go31 L M hm.symm hl j hj).2) (out31 L M)
    by_cases he : L = M
    · have hk : KOK E0 26 [] (bodyOf Tryz.f24) (kAt [1,1,0,1] (st31 L M 0) [] .normal (st31 L M L.length) []) := kAt_ok (Tri.block (id := 0) (Tri.loop (r1 he)))
      exact fin hk ((congrArg T.run (p31n L M)).trans (bF hd (bS rfl))) (by rw [ask_true he])
    · have hk : KOK E0 26 [] (bodyOf Tryz.f24) (kAt [1,1,0,1] (st31 L M 0) [] .ret [(4, .bool false)] []) := kAt_ok (Tri.block (id := 0) (Tri.loop (r2 he)))
      exact fin hk ((congrArg T.run (p31r L M)).trans (bF hd (bS rfl))) (by rw [ask_false he])
  · have hd : (!decide ((((L.map tyI.elem).length : Nat) : Int) = (((M.map tyI.elem).length : Nat) : Int))) = true := by simp; omega
    exact fin (kNo_ok (p := [1,1,0,1])) ((congrArg T.run (p31x L M)).trans (bT hd rfl)) (by rw [ask_false (fun h => hm (congrArg _ h))])
def st32 (L M : List tyH.I) (j : Nat) : List (Nat × AV) := [(0, encL tyH L), (1, encL tyH M), (12, .int .i64 (((L.map tyH.elem).length : Nat) : Int)), (13, .int .i64 j)]
theorem p32 (l m : List AV) (n i : Int) : obsK (XN 50 [10,14,24]) (fun _ => none) 26 (sub (bodyOf Tryz.f50) [1,1,0,1,0,0]) [1,1,0,1,0,0] (frm [(0, .lst 4 l .open_), (1, .lst 4 m .open_), (12, .int .i64 n), (13, .int .i64 i)]) [] [0,1,4,12,13] =
  (T.br (decide (i < n))
    (T.br (decide ((0 : Int) ≤ i) && decide (i < (↑l.length : Int)) &&
  fitsC Tryz.prog (90 : Nat) (l.getD i.toNat undef))
      (T.br (decide ((0 : Int) ≤ i) && decide (i < (↑m.length : Int)) &&
  fitsC Tryz.prog (90 : Nat) (m.getD i.toNat undef))
        (T.br (!(((l.getD i.toNat undef).cells.getD (0 : Nat) undef).toI ==
      ((m.getD i.toNat undef).cells.getD (0 : Nat) undef).toI &&
    (((l.getD i.toNat undef).cells.getD (1 : Nat) undef).toI ==
        ((m.getD i.toNat undef).cells.getD (1 : Nat) undef).toI &&
      (((l.getD i.toNat undef).cells.getD (2 : Nat) undef).toI ==
          ((m.getD i.toNat undef).cells.getD (2 : Nat) undef).toI &&
        (((l.getD i.toNat undef).cells.getD (3 : Nat) undef).toS ==
            ((m.getD i.toNat undef).cells.getD (3 : Nat) undef).toS &&
          true)))))
          (T.leaf ((X.ret,
  [AV.lst 4 l Tl.open_, AV.lst 4 m Tl.open_, AV.bool false, AV.int IntKind.i64 n, AV.int IntKind.i64 i], [])))
          (T.leaf ((X.normal,
  [AV.lst 4 l Tl.open_, AV.lst 4 m Tl.open_, AV.fsl 0 [], AV.int IntKind.i64 n,
    AV.int IntKind.i64 (IntKind.i64.wrap (i + 1))],
  []))))
        T.fail)
      T.fail)
    (T.leaf ((X.exit 0,
  [AV.lst 4 l Tl.open_, AV.lst 4 m Tl.open_, AV.fsl 0 [], AV.int IntKind.i64 n, AV.int IntKind.i64 i], [])))) := by kernel_rfl
theorem p32r (L M : List tyH.I) : runV (XN 50 [10,14,24]) (kAt [1,1,0,1] (st32 L M 0) [] .ret [(4, .bool false)] []) Tryz.f50 (bodyOf Tryz.f50) [encL tyH L, encL tyH M] =
  (T.br (!decide ((↑(List.map tyH.elem L).length : Int) = (↑(List.map tyH.elem M).length : Int)))
    (T.leaf (AV.bool false))
    (T.br (askS
  [AV.lst (4 : Nat) (List.map tyH.elem L) Tl.open_, AV.lst (4 : Nat) (List.map tyH.elem M) Tl.open_,
    AV.int IntKind.i64 (↑(List.map tyH.elem L).length : Int), AV.int IntKind.i64 (0 : Int)]
  [AV.lst (4 : Nat) (List.map tyH.elem L) Tl.open_, AV.lst (4 : Nat) (List.map tyH.elem M) Tl.open_,
    AV.int IntKind.i64 (↑(List.map tyH.elem L).length : Int), AV.int IntKind.i64 (↑(0 : Nat) : Int)]
  [] [])
      (T.leaf (AV.bool false))
      T.fail)) := by kernel_rfl
theorem p32n (L M : List tyH.I) : runV (XN 50 [10,14,24]) (kAt [1,1,0,1] (st32 L M 0) [] .normal (st32 L M L.length) []) Tryz.f50 (bodyOf Tryz.f50) [encL tyH L, encL tyH M] =
  (T.br (!decide ((↑(List.map tyH.elem L).length : Int) = (↑(List.map tyH.elem M).length : Int)))
    (T.leaf (AV.bool false))
    (T.br (askS
  [AV.lst (4 : Nat) (List.map tyH.elem L) Tl.open_, AV.lst (4 : Nat) (List.map tyH.elem M) Tl.open_,
    AV.int IntKind.i64 (↑(List.map tyH.elem L).length : Int), AV.int IntKind.i64 (0 : Int)]
  [AV.lst (4 : Nat) (List.map tyH.elem L) Tl.open_, AV.lst (4 : Nat) (List.map tyH.elem M) Tl.open_,
    AV.int IntKind.i64 (↑(List.map tyH.elem L).length : Int), AV.int IntKind.i64 (↑(0 : Nat) : Int)]
  [] [])
      (T.leaf (AV.bool true))
      T.fail)) := by kernel_rfl
theorem p32x (L M : List tyH.I) : runV (XN 50 [10,14,24]) (kNo [1,1,0,1]) Tryz.f50 (bodyOf Tryz.f50) [encL tyH L, encL tyH M] =
  (T.br (!decide ((↑(List.map tyH.elem L).length : Int) = (↑(List.map tyH.elem M).length : Int)))
    (T.leaf (AV.bool false))
    T.fail) := by kernel_rfl
theorem go32 (L M : List tyH.I) (hlen : M.length = L.length) (hl : L.length < 1000000000000000) (j : Nat) (hj : j < L.length) :
    (L.getD j tyH.zero = M.getD j tyH.zero → Tri E0 26 [] (sub (bodyOf Tryz.f50) [1,1,0,1,0,0]) (frm (st32 L M j)) [] .normal (frm (st32 L M (j + 1))) []) ∧
    (L.getD j tyH.zero ≠ M.getD j tyH.zero → Tri E0 26 [] (sub (bodyOf Tryz.f50) [1,1,0,1,0,0]) (frm (st32 L M j)) [] .ret (frm [(4, .bool false)]) []) := by
  have ht := p32 (L.map tyH.elem) (M.map tyH.elem) (((L.map tyH.elem).length : Nat) : Int) j
  have hjm : j < M.length := by omega
  have f0 : fitsC Tryz.prog 90 (tyH.elem tyH.zero) = true := by kernel_rfl
  rw [idx_ok hj f0, idx_ok hjm f0, lt_ok hj, Int.toNat_natCast, getD_elem hj, getD_elem hjm, cmp_tyH, wrap_next (by omega)] at ht
  refine ⟨fun he => ?_, fun he => ?_⟩
  · rw [ask_true he] at ht
    exact Tri.seen (X := XN 50 [10,14,24]) g0 (noCalls fun _ _ _ => rfl) KOK.none rfl (congrArg T.run ht) (by
      intro q hq
      simp only [st32, List.mem_cons, List.not_mem_nil, or_false] at hq
      rcases hq with rfl | rfl | rfl | rfl <;> rfl)
  · rw [ask_false he] at ht
    exact Tri.seen (X := XN 50 [10,14,24]) g0 (noCalls fun _ _ _ => rfl) KOK.none rfl (congrArg T.run ht) (by
      intro q hq
      simp only [List.mem_cons, List.not_mem_nil, or_false] at hq
      rcases hq with rfl; rfl)
theorem out32 (L M : List tyH.I) : Tri E0 26 [] (sub (bodyOf Tryz.f50) [1,1,0,1,0,0]) (frm (st32 L M L.length)) [] (.exit 0) (frm (st32 L M L.length)) [] := by
  have ht := p32 (L.map tyH.elem) (M.map tyH.elem) (((L.map tyH.elem).length : Nat) : Int) L.length
  rw [lt_no] at ht
  exact Tri.seen (X := XN 50 [10,14,24]) g0 (noCalls fun _ _ _ => rfl) KOK.none rfl (congrArg T.run ht) (by
    intro q hq
    simp only [st32, List.mem_cons, List.not_mem_nil, or_false] at hq
    rcases hq with rfl | rfl | rfl | rfl <;> rfl)
theorem con32 (L M : List tyH.I) (hl : L.length < 1000000000000000) (h : H) : Con E0 50 [encL tyH L, encL tyH M] h (.bool (ask (L = M))) h := by
  have hn : noRefs [encL tyH L, encL tyH M] = true := by simp only [noRefs, encL_noRef, Bool.and_true]
  have fin : ∀ {K : Known} {v : AV}, KOK E0 26 [] (bodyOf Tryz.f50) K → (runV (XN 50 [10,14,24]) K Tryz.f50 (bodyOf Tryz.f50) [encL tyH L, encL tyH M]).run = .ok v → v = .bool (ask (L = M)) → Con E0 50 [encL tyH L, encL tyH M] h (.bool (ask (L = M))) h := fun hk hr hv =>
    Con.pureV (X := XN 50 [10,14,24]) g0 noG0 (noCalls fun _ _ _ => rfl) (fn := Tryz.f50) Tryz.func50 (c := bodyOf Tryz.f50) rfl rfl (args := [encL tyH L, encL tyH M]) hk hn hr (hv ▸ Le.refl _) rfl h
  by_cases hm : L.length = M.length
  · have hd : (!decide ((((L.map tyH.elem).length : Nat) : Int) = (((M.map tyH.elem).length : Nat) : Int))) = false := by simp; omega
    obtain ⟨r1, r2⟩ := eq_rounds (L := L) (M := M) (z := tyH.zero) (st := st32 L M) (rt := [(4, .bool false)]) hm.symm (fun j hj => (go32 L M hm.symm hl j hj).1) (fun j hj => (go32 L M hm.symm hl j hj).2) (out32 L M)
    by_cases he : L = M
    · have hk : KOK E0 26 [] (bodyOf Tryz.f50) (kAt [1,1,0,1] (st32 L M 0) [] .normal (st32 L M L.length) []) := kAt_ok (Tri.block (id := 0) (Tri.loop (r1 he)))
      exact fin hk ((congrArg T.run (p32n L M)).trans (bF hd (bS rfl))) (by rw [ask_true he])
    · have hk : KOK E0 26 [] (bodyOf Tryz.f50) (kAt [1,1,0,1] (st32 L M 0) [] .ret [(4, .bool false)] []) := kAt_ok (Tri.block (id := 0) (Tri.loop (r2 he)))
      exact fin hk ((congrArg T.run (p32r L M)).trans (bF hd (bS rfl))) (by rw [ask_false he])
  · have hd : (!decide ((((L.map tyH.elem).length : Nat) : Int) = (((M.map tyH.elem).length : Nat) : Int))) = true := by simp; omega
    exact fin (kNo_ok (p := [1,1,0,1])) ((congrArg T.run (p32x L M)).trans (bT hd rfl)) (by rw [ask_false (fun h => hm (congrArg _ h))])
def st33 (L M : List tyC.I) (j : Nat) : List (Nat × AV) := [(0, encL tyC L), (1, encL tyC M), (5, .int .i64 j)]
theorem p33 (l m : List AV) (i : Int) : obsK (XN 26 [10,14,25]) (fun _ => none) 26 (sub (bodyOf Tryz.f26) [1,1,0,1,0,0]) [1,1,0,1,0,0] (frm [(0, .lst 5 l .open_), (1, .lst 5 m .open_), (5, .int .i64 i)]) [] [0,1,4,5] =
  (T.br (decide (i < (↑l.length : Int)))
    (T.br (decide ((0 : Int) ≤ i) && decide (i < (↑l.length : Int)) &&
  fitsC Tryz.prog (57 : Nat) (l.getD i.toNat undef))
      (T.br (decide ((0 : Int) ≤ i) && decide (i < (↑m.length : Int)) &&
  fitsC Tryz.prog (57 : Nat) (m.getD i.toNat undef))
        (T.br (!(((l.getD i.toNat undef).cells.getD (0 : Nat) undef).toI ==
      ((m.getD i.toNat undef).cells.getD (0 : Nat) undef).toI &&
    (((l.getD i.toNat undef).cells.getD (1 : Nat) undef).toI ==
        ((m.getD i.toNat undef).cells.getD (1 : Nat) undef).toI &&
      (((l.getD i.toNat undef).cells.getD (2 : Nat) undef).toS ==
          ((m.getD i.toNat undef).cells.getD (2 : Nat) undef).toS &&
        (((l.getD i.toNat undef).cells.getD (3 : Nat) undef).toS ==
            ((m.getD i.toNat undef).cells.getD (3 : Nat) undef).toS &&
          (((l.getD i.toNat undef).cells.getD (4 : Nat) undef).toS ==
              ((m.getD i.toNat undef).cells.getD (4 : Nat) undef).toS &&
            true))))))
          (T.leaf ((X.ret, [AV.lst 5 l Tl.open_, AV.lst 5 m Tl.open_, AV.bool false, AV.int IntKind.i64 i], [])))
          (T.leaf ((X.normal,
  [AV.lst 5 l Tl.open_, AV.lst 5 m Tl.open_, AV.fsl 0 [], AV.int IntKind.i64 (IntKind.i64.wrap (i + 1))], []))))
        T.fail)
      T.fail)
    (T.leaf ((X.exit 0, [AV.lst 5 l Tl.open_, AV.lst 5 m Tl.open_, AV.fsl 0 [], AV.int IntKind.i64 i], [])))) := by kernel_rfl
theorem p33r (L M : List tyC.I) : runV (XN 26 [10,14,25]) (kAt [1,1,0,1] (st33 L M 0) [] .ret [(4, .bool false)] []) Tryz.f26 (bodyOf Tryz.f26) [encL tyC L, encL tyC M] =
  (T.br (!decide ((↑(List.map tyC.elem L).length : Int) = (↑(List.map tyC.elem M).length : Int)))
    (T.leaf (AV.bool false))
    (T.br (askS
  [AV.lst (5 : Nat) (List.map tyC.elem L) Tl.open_, AV.lst (5 : Nat) (List.map tyC.elem M) Tl.open_,
    AV.int IntKind.i64 (0 : Int)]
  [AV.lst (5 : Nat) (List.map tyC.elem L) Tl.open_, AV.lst (5 : Nat) (List.map tyC.elem M) Tl.open_,
    AV.int IntKind.i64 (↑(0 : Nat) : Int)]
  [] [])
      (T.leaf (AV.bool false))
      T.fail)) := by kernel_rfl
theorem p33n (L M : List tyC.I) : runV (XN 26 [10,14,25]) (kAt [1,1,0,1] (st33 L M 0) [] .normal (st33 L M L.length) []) Tryz.f26 (bodyOf Tryz.f26) [encL tyC L, encL tyC M] =
  (T.br (!decide ((↑(List.map tyC.elem L).length : Int) = (↑(List.map tyC.elem M).length : Int)))
    (T.leaf (AV.bool false))
    (T.br (askS
  [AV.lst (5 : Nat) (List.map tyC.elem L) Tl.open_, AV.lst (5 : Nat) (List.map tyC.elem M) Tl.open_,
    AV.int IntKind.i64 (0 : Int)]
  [AV.lst (5 : Nat) (List.map tyC.elem L) Tl.open_, AV.lst (5 : Nat) (List.map tyC.elem M) Tl.open_,
    AV.int IntKind.i64 (↑(0 : Nat) : Int)]
  [] [])
      (T.leaf (AV.bool true))
      T.fail)) := by kernel_rfl
theorem p33x (L M : List tyC.I) : runV (XN 26 [10,14,25]) (kNo [1,1,0,1]) Tryz.f26 (bodyOf Tryz.f26) [encL tyC L, encL tyC M] =
  (T.br (!decide ((↑(List.map tyC.elem L).length : Int) = (↑(List.map tyC.elem M).length : Int)))
    (T.leaf (AV.bool false))
    T.fail) := by kernel_rfl
theorem go33 (L M : List tyC.I) (hlen : M.length = L.length) (hl : L.length < 1000000000000000) (j : Nat) (hj : j < L.length) :
    (L.getD j tyC.zero = M.getD j tyC.zero → Tri E0 26 [] (sub (bodyOf Tryz.f26) [1,1,0,1,0,0]) (frm (st33 L M j)) [] .normal (frm (st33 L M (j + 1))) []) ∧
    (L.getD j tyC.zero ≠ M.getD j tyC.zero → Tri E0 26 [] (sub (bodyOf Tryz.f26) [1,1,0,1,0,0]) (frm (st33 L M j)) [] .ret (frm [(4, .bool false)]) []) := by
  have ht := p33 (L.map tyC.elem) (M.map tyC.elem) j
  have hjm : j < M.length := by omega
  have f0 : fitsC Tryz.prog 57 (tyC.elem tyC.zero) = true := by kernel_rfl
  rw [idx_ok hj f0, idx_ok hjm f0, lt_ok hj, Int.toNat_natCast, getD_elem hj, getD_elem hjm, cmp_tyC, wrap_next (by omega)] at ht
  refine ⟨fun he => ?_, fun he => ?_⟩
  · rw [ask_true he] at ht
    exact Tri.seen (X := XN 26 [10,14,25]) g0 (noCalls fun _ _ _ => rfl) KOK.none rfl (congrArg T.run ht) (by
      intro q hq
      simp only [st33, List.mem_cons, List.not_mem_nil, or_false] at hq
      rcases hq with rfl | rfl | rfl <;> rfl)
  · rw [ask_false he] at ht
    exact Tri.seen (X := XN 26 [10,14,25]) g0 (noCalls fun _ _ _ => rfl) KOK.none rfl (congrArg T.run ht) (by
      intro q hq
      simp only [List.mem_cons, List.not_mem_nil, or_false] at hq
      rcases hq with rfl; rfl)
theorem out33 (L M : List tyC.I) : Tri E0 26 [] (sub (bodyOf Tryz.f26) [1,1,0,1,0,0]) (frm (st33 L M L.length)) [] (.exit 0) (frm (st33 L M L.length)) [] := by
  have ht := p33 (L.map tyC.elem) (M.map tyC.elem) L.length
  rw [lt_no] at ht
  exact Tri.seen (X := XN 26 [10,14,25]) g0 (noCalls fun _ _ _ => rfl) KOK.none rfl (congrArg T.run ht) (by
    intro q hq
    simp only [st33, List.mem_cons, List.not_mem_nil, or_false] at hq
    rcases hq with rfl | rfl | rfl <;> rfl)
theorem con33 (L M : List tyC.I) (hl : L.length < 1000000000000000) (h : H) : Con E0 26 [encL tyC L, encL tyC M] h (.bool (ask (L = M))) h := by
  have hn : noRefs [encL tyC L, encL tyC M] = true := by simp only [noRefs, encL_noRef, Bool.and_true]
  have fin : ∀ {K : Known} {v : AV}, KOK E0 26 [] (bodyOf Tryz.f26) K → (runV (XN 26 [10,14,25]) K Tryz.f26 (bodyOf Tryz.f26) [encL tyC L, encL tyC M]).run = .ok v → v = .bool (ask (L = M)) → Con E0 26 [encL tyC L, encL tyC M] h (.bool (ask (L = M))) h := fun hk hr hv =>
    Con.pureV (X := XN 26 [10,14,25]) g0 noG0 (noCalls fun _ _ _ => rfl) (fn := Tryz.f26) Tryz.func26 (c := bodyOf Tryz.f26) rfl rfl (args := [encL tyC L, encL tyC M]) hk hn hr (hv ▸ Le.refl _) rfl h
  by_cases hm : L.length = M.length
  · have hd : (!decide ((((L.map tyC.elem).length : Nat) : Int) = (((M.map tyC.elem).length : Nat) : Int))) = false := by simp; omega
    obtain ⟨r1, r2⟩ := eq_rounds (L := L) (M := M) (z := tyC.zero) (st := st33 L M) (rt := [(4, .bool false)]) hm.symm (fun j hj => (go33 L M hm.symm hl j hj).1) (fun j hj => (go33 L M hm.symm hl j hj).2) (out33 L M)
    by_cases he : L = M
    · have hk : KOK E0 26 [] (bodyOf Tryz.f26) (kAt [1,1,0,1] (st33 L M 0) [] .normal (st33 L M L.length) []) := kAt_ok (Tri.block (id := 0) (Tri.loop (r1 he)))
      exact fin hk ((congrArg T.run (p33n L M)).trans (bF hd (bS rfl))) (by rw [ask_true he])
    · have hk : KOK E0 26 [] (bodyOf Tryz.f26) (kAt [1,1,0,1] (st33 L M 0) [] .ret [(4, .bool false)] []) := kAt_ok (Tri.block (id := 0) (Tri.loop (r2 he)))
      exact fin hk ((congrArg T.run (p33r L M)).trans (bF hd (bS rfl))) (by rw [ask_false he])
  · have hd : (!decide ((((L.map tyC.elem).length : Nat) : Int) = (((M.map tyC.elem).length : Nat) : Int))) = true := by simp; omega
    exact fin (kNo_ok (p := [1,1,0,1])) ((congrArg T.run (p33x L M)).trans (bT hd rfl)) (by rw [ask_false (fun h => hm (congrArg _ h))])
def st63 (L M : List tyI.I) (j : Nat) : List (Nat × AV) := [(0, encL tyI L), (1, encL tyI M), (5, .int .i64 j)]
theorem p63 (l m : List AV) (i : Int) : obsK (XN 27 [10,14,25]) (fun _ => none) 26 (sub (bodyOf Tryz.f27) [1,1,0,1,0,0]) [1,1,0,1,0,0] (frm [(0, .lst 2 l .open_), (1, .lst 2 m .open_), (5, .int .i64 i)]) [] [0,1,4,5] =
  (T.br (decide (i < (↑l.length : Int)))
    (T.br (decide ((0 : Int) ≤ i) && decide (i < (↑l.length : Int)) &&
  fitsC Tryz.prog (61 : Nat) (l.getD i.toNat undef))
      (T.br (decide ((0 : Int) ≤ i) && decide (i < (↑m.length : Int)) &&
  fitsC Tryz.prog (61 : Nat) (m.getD i.toNat undef))
        (T.br (!(((l.getD i.toNat undef).cells.getD (0 : Nat) undef).toI ==
      ((m.getD i.toNat undef).cells.getD (0 : Nat) undef).toI &&
    (((l.getD i.toNat undef).cells.getD (1 : Nat) undef).toI ==
        ((m.getD i.toNat undef).cells.getD (1 : Nat) undef).toI &&
      true)))
          (T.leaf ((X.ret, [AV.lst 2 l Tl.open_, AV.lst 2 m Tl.open_, AV.bool false, AV.int IntKind.i64 i], [])))
          (T.leaf ((X.normal,
  [AV.lst 2 l Tl.open_, AV.lst 2 m Tl.open_, AV.fsl 0 [], AV.int IntKind.i64 (IntKind.i64.wrap (i + 1))], []))))
        T.fail)
      T.fail)
    (T.leaf ((X.exit 0, [AV.lst 2 l Tl.open_, AV.lst 2 m Tl.open_, AV.fsl 0 [], AV.int IntKind.i64 i], [])))) := by kernel_rfl
theorem p63r (L M : List tyI.I) : runV (XN 27 [10,14,25]) (kAt [1,1,0,1] (st63 L M 0) [] .ret [(4, .bool false)] []) Tryz.f27 (bodyOf Tryz.f27) [encL tyI L, encL tyI M] =
  (T.br (!decide ((↑(List.map tyI.elem L).length : Int) = (↑(List.map tyI.elem M).length : Int)))
    (T.leaf (AV.bool false))
    (T.br (askS
  [AV.lst (2 : Nat) (List.map tyI.elem L) Tl.open_, AV.lst (2 : Nat) (List.map tyI.elem M) Tl.open_,
    AV.int IntKind.i64 (0 : Int)]
  [AV.lst (2 : Nat) (List.map tyI.elem L) Tl.open_, AV.lst (2 : Nat) (List.map tyI.elem M) Tl.open_,
    AV.int IntKind.i64 (↑(0 : Nat) : Int)]
  [] [])
      (T.leaf (AV.bool false))
      T.fail)) := by kernel_rfl
theorem p63n (L M : List tyI.I) : runV (XN 27 [10,14,25]) (kAt [1,1,0,1] (st63 L M 0) [] .normal (st63 L M L.length) []) Tryz.f27 (bodyOf Tryz.f27) [encL tyI L, encL tyI M] =
  (T.br (!decide ((↑(List.map tyI.elem L).length : Int) = (↑(List.map tyI.elem M).length : Int)))
    (T.leaf (AV.bool false))
    (T.br (askS
  [AV.lst (2 : Nat) (List.map tyI.elem L) Tl.open_, AV.lst (2 : Nat) (List.map tyI.elem M) Tl.open_,
    AV.int IntKind.i64 (0 : Int)]
  [AV.lst (2 : Nat) (List.map tyI.elem L) Tl.open_, AV.lst (2 : Nat) (List.map tyI.elem M) Tl.open_,
    AV.int IntKind.i64 (↑(0 : Nat) : Int)]
  [] [])
      (T.leaf (AV.bool true))
      T.fail)) := by kernel_rfl
theorem p63x (L M : List tyI.I) : runV (XN 27 [10,14,25]) (kNo [1,1,0,1]) Tryz.f27 (bodyOf Tryz.f27) [encL tyI L, encL tyI M] =
  (T.br (!decide ((↑(List.map tyI.elem L).length : Int) = (↑(List.map tyI.elem M).length : Int)))
    (T.leaf (AV.bool false))
    T.fail) := by kernel_rfl
theorem go63 (L M : List tyI.I) (hlen : M.length = L.length) (hl : L.length < 1000000000000000) (j : Nat) (hj : j < L.length) :
    (L.getD j tyI.zero = M.getD j tyI.zero → Tri E0 26 [] (sub (bodyOf Tryz.f27) [1,1,0,1,0,0]) (frm (st63 L M j)) [] .normal (frm (st63 L M (j + 1))) []) ∧
    (L.getD j tyI.zero ≠ M.getD j tyI.zero → Tri E0 26 [] (sub (bodyOf Tryz.f27) [1,1,0,1,0,0]) (frm (st63 L M j)) [] .ret (frm [(4, .bool false)]) []) := by
  have ht := p63 (L.map tyI.elem) (M.map tyI.elem) j
  have hjm : j < M.length := by omega
  have f0 : fitsC Tryz.prog 61 (tyI.elem tyI.zero) = true := by kernel_rfl
  rw [idx_ok hj f0, idx_ok hjm f0, lt_ok hj, Int.toNat_natCast, getD_elem hj, getD_elem hjm, cmp_tyI, wrap_next (by omega)] at ht
  refine ⟨fun he => ?_, fun he => ?_⟩
  · rw [ask_true he] at ht
    exact Tri.seen (X := XN 27 [10,14,25]) g0 (noCalls fun _ _ _ => rfl) KOK.none rfl (congrArg T.run ht) (by
      intro q hq
      simp only [st63, List.mem_cons, List.not_mem_nil, or_false] at hq
      rcases hq with rfl | rfl | rfl <;> rfl)
  · rw [ask_false he] at ht
    exact Tri.seen (X := XN 27 [10,14,25]) g0 (noCalls fun _ _ _ => rfl) KOK.none rfl (congrArg T.run ht) (by
      intro q hq
      simp only [List.mem_cons, List.not_mem_nil, or_false] at hq
      rcases hq with rfl; rfl)
theorem out63 (L M : List tyI.I) : Tri E0 26 [] (sub (bodyOf Tryz.f27) [1,1,0,1,0,0]) (frm (st63 L M L.length)) [] (.exit 0) (frm (st63 L M L.length)) [] := by
  have ht := p63 (L.map tyI.elem) (M.map tyI.elem) L.length
  rw [lt_no] at ht
  exact Tri.seen (X := XN 27 [10,14,25]) g0 (noCalls fun _ _ _ => rfl) KOK.none rfl (congrArg T.run ht) (by
    intro q hq
    simp only [st63, List.mem_cons, List.not_mem_nil, or_false] at hq
    rcases hq with rfl | rfl | rfl <;> rfl)
theorem con63 (L M : List tyI.I) (hl : L.length < 1000000000000000) (h : H) : Con E0 27 [encL tyI L, encL tyI M] h (.bool (ask (L = M))) h := by
  have hn : noRefs [encL tyI L, encL tyI M] = true := by simp only [noRefs, encL_noRef, Bool.and_true]
  have fin : ∀ {K : Known} {v : AV}, KOK E0 26 [] (bodyOf Tryz.f27) K → (runV (XN 27 [10,14,25]) K Tryz.f27 (bodyOf Tryz.f27) [encL tyI L, encL tyI M]).run = .ok v → v = .bool (ask (L = M)) → Con E0 27 [encL tyI L, encL tyI M] h (.bool (ask (L = M))) h := fun hk hr hv =>
    Con.pureV (X := XN 27 [10,14,25]) g0 noG0 (noCalls fun _ _ _ => rfl) (fn := Tryz.f27) Tryz.func27 (c := bodyOf Tryz.f27) rfl rfl (args := [encL tyI L, encL tyI M]) hk hn hr (hv ▸ Le.refl _) rfl h
  by_cases hm : L.length = M.length
  · have hd : (!decide ((((L.map tyI.elem).length : Nat) : Int) = (((M.map tyI.elem).length : Nat) : Int))) = false := by simp; omega
    obtain ⟨r1, r2⟩ := eq_rounds (L := L) (M := M) (z := tyI.zero) (st := st63 L M) (rt := [(4, .bool false)]) hm.symm (fun j hj => (go63 L M hm.symm hl j hj).1) (fun j hj => (go63 L M hm.symm hl j hj).2) (out63 L M)
    by_cases he : L = M
    · have hk : KOK E0 26 [] (bodyOf Tryz.f27) (kAt [1,1,0,1] (st63 L M 0) [] .normal (st63 L M L.length) []) := kAt_ok (Tri.block (id := 0) (Tri.loop (r1 he)))
      exact fin hk ((congrArg T.run (p63n L M)).trans (bF hd (bS rfl))) (by rw [ask_true he])
    · have hk : KOK E0 26 [] (bodyOf Tryz.f27) (kAt [1,1,0,1] (st63 L M 0) [] .ret [(4, .bool false)] []) := kAt_ok (Tri.block (id := 0) (Tri.loop (r2 he)))
      exact fin hk ((congrArg T.run (p63r L M)).trans (bF hd (bS rfl))) (by rw [ask_false he])
  · have hd : (!decide ((((L.map tyI.elem).length : Nat) : Int) = (((M.map tyI.elem).length : Nat) : Int))) = true := by simp; omega
    exact fin (kNo_ok (p := [1,1,0,1])) ((congrArg T.run (p63x L M)).trans (bT hd rfl)) (by rw [ask_false (fun h => hm (congrArg _ h))])
theorem p30 (a0 a1 : ByteArray) (a2 : Int) (a3 : List tyI.I) (a4 : List tyH.I) (b0 b1 : ByteArray) (b2 : Int) (b3 : List tyI.I) (b4 : List tyH.I) : runV (XC 49 [10,17,24,31] [clLL 24 tyI, clLL 50 tyH]) (fun _ => none) Tryz.f49 (bodyOf Tryz.f49) [.agg [.str a0, .str a1, .int .i64 a2, encL tyI a3, encL tyH a4], .agg [.str b0, .str b1, .int .i64 b2, encL tyI b3, encL tyH b4]] =
  (T.br (decide (a0 = b0))
    (T.br (decide (a1 = b1))
      (T.br (decide (a2 = b2))
        (T.br (askQ (clLL (24 : FuncId) tyI).2
  [AV.lst (2 : Nat) (List.map tyI.elem a3) Tl.open_, AV.lst (2 : Nat) (List.map tyI.elem b3) Tl.open_])
          (T.br (ask
  (AV.lst (2 : Nat) (List.map tyI.elem a3) Tl.open_ = AV.lst (2 : Nat) (List.map tyI.elem b3) Tl.open_))
            (T.br (askQ (clLL (50 : FuncId) tyH).2
  [AV.lst (4 : Nat) (List.map tyH.elem a4) Tl.open_, AV.lst (4 : Nat) (List.map tyH.elem b4) Tl.open_])
              (T.leaf (AV.bool
  (ask (AV.lst 4 (List.map tyH.elem a4) Tl.open_ = AV.lst 4 (List.map tyH.elem b4) Tl.open_))))
              T.fail)
            (T.leaf (AV.bool false)))
          T.fail)
        (T.br false
          (T.br (askQ (clLL (50 : FuncId) tyH).2
  [AV.lst (4 : Nat) (List.map tyH.elem a4) Tl.open_, AV.lst (4 : Nat) (List.map tyH.elem b4) Tl.open_])
            (T.leaf (AV.bool
  (ask (AV.lst 4 (List.map tyH.elem a4) Tl.open_ = AV.lst 4 (List.map tyH.elem b4) Tl.open_))))
            T.fail)
          (T.leaf (AV.bool false))))
      (T.br false
        (T.br (askQ (clLL (24 : FuncId) tyI).2
  [AV.lst (2 : Nat) (List.map tyI.elem a3) Tl.open_, AV.lst (2 : Nat) (List.map tyI.elem b3) Tl.open_])
          (T.br (ask
  (AV.lst (2 : Nat) (List.map tyI.elem a3) Tl.open_ = AV.lst (2 : Nat) (List.map tyI.elem b3) Tl.open_))
            (T.br (askQ (clLL (50 : FuncId) tyH).2
  [AV.lst (4 : Nat) (List.map tyH.elem a4) Tl.open_, AV.lst (4 : Nat) (List.map tyH.elem b4) Tl.open_])
              (T.leaf (AV.bool
  (ask (AV.lst 4 (List.map tyH.elem a4) Tl.open_ = AV.lst 4 (List.map tyH.elem b4) Tl.open_))))
              T.fail)
            (T.leaf (AV.bool false)))
          T.fail)
        (T.br false
          (T.br (askQ (clLL (50 : FuncId) tyH).2
  [AV.lst (4 : Nat) (List.map tyH.elem a4) Tl.open_, AV.lst (4 : Nat) (List.map tyH.elem b4) Tl.open_])
            (T.leaf (AV.bool
  (ask (AV.lst 4 (List.map tyH.elem a4) Tl.open_ = AV.lst 4 (List.map tyH.elem b4) Tl.open_))))
            T.fail)
          (T.leaf (AV.bool false)))))
    (T.br false
      (T.br (decide (a2 = b2))
        (T.br (askQ (clLL (24 : FuncId) tyI).2
  [AV.lst (2 : Nat) (List.map tyI.elem a3) Tl.open_, AV.lst (2 : Nat) (List.map tyI.elem b3) Tl.open_])
          (T.br (ask
  (AV.lst (2 : Nat) (List.map tyI.elem a3) Tl.open_ = AV.lst (2 : Nat) (List.map tyI.elem b3) Tl.open_))
            (T.br (askQ (clLL (50 : FuncId) tyH).2
  [AV.lst (4 : Nat) (List.map tyH.elem a4) Tl.open_, AV.lst (4 : Nat) (List.map tyH.elem b4) Tl.open_])
              (T.leaf (AV.bool
  (ask (AV.lst 4 (List.map tyH.elem a4) Tl.open_ = AV.lst 4 (List.map tyH.elem b4) Tl.open_))))
              T.fail)
            (T.leaf (AV.bool false)))
          T.fail)
        (T.br false
          (T.br (askQ (clLL (50 : FuncId) tyH).2
  [AV.lst (4 : Nat) (List.map tyH.elem a4) Tl.open_, AV.lst (4 : Nat) (List.map tyH.elem b4) Tl.open_])
            (T.leaf (AV.bool
  (ask (AV.lst 4 (List.map tyH.elem a4) Tl.open_ = AV.lst 4 (List.map tyH.elem b4) Tl.open_))))
            T.fail)
          (T.leaf (AV.bool false))))
      (T.br false
        (T.br (askQ (clLL (24 : FuncId) tyI).2
  [AV.lst (2 : Nat) (List.map tyI.elem a3) Tl.open_, AV.lst (2 : Nat) (List.map tyI.elem b3) Tl.open_])
          (T.br (ask
  (AV.lst (2 : Nat) (List.map tyI.elem a3) Tl.open_ = AV.lst (2 : Nat) (List.map tyI.elem b3) Tl.open_))
            (T.br (askQ (clLL (50 : FuncId) tyH).2
  [AV.lst (4 : Nat) (List.map tyH.elem a4) Tl.open_, AV.lst (4 : Nat) (List.map tyH.elem b4) Tl.open_])
              (T.leaf (AV.bool
  (ask (AV.lst 4 (List.map tyH.elem a4) Tl.open_ = AV.lst 4 (List.map tyH.elem b4) Tl.open_))))
              T.fail)
            (T.leaf (AV.bool false)))
          T.fail)
        (T.br false
          (T.br (askQ (clLL (50 : FuncId) tyH).2
  [AV.lst (4 : Nat) (List.map tyH.elem a4) Tl.open_, AV.lst (4 : Nat) (List.map tyH.elem b4) Tl.open_])
            (T.leaf (AV.bool
  (ask (AV.lst 4 (List.map tyH.elem a4) Tl.open_ = AV.lst 4 (List.map tyH.elem b4) Tl.open_))))
            T.fail)
          (T.leaf (AV.bool false)))))) := by kernel_rfl
theorem same5 (a0 a1 : ByteArray) (a2 : Int) (a3 : List tyI.I) (a4 : List tyH.I) (b0 b1 : ByteArray) (b2 : Int) (b3 : List tyI.I) (b4 : List tyH.I) :
    ask (((a0, a1, a2, a3, a4) : ByteArray × ByteArray × Int × List tyI.I × List tyH.I) = (b0, b1, b2, b3, b4)) = (decide (a0 = b0) && (decide (a1 = b1) && (decide (a2 = b2) && (ask (a3 = b3) && ask (a4 = b4))))) := by
  rw [ask_pair, ask_pair, ask_pair, ask_pair, ask_dec, ask_dec, ask_dec]
theorem callsI {X : SX} (hx : X.call = callsBy [clLL 24 tyI, clLL 50 tyH]) (hE : X.E = E0) : CallOK X.E X.calls := callsBy_ok hx fun c hc => by
  rw [hE]
  rcases List.mem_cons.1 hc with rfl | hc
  · exact clLL_con con31
  · obtain rfl := List.mem_singleton.1 hc
    exact clLL_con con32
theorem con30r (a0 a1 : ByteArray) (a2 : Int) (a3 : List tyI.I) (a4 : List tyH.I) (b0 b1 : ByteArray) (b2 : Int) (b3 : List tyI.I) (b4 : List tyH.I) (l3 : a3.length < 1000000000000000) (l4 : a4.length < 1000000000000000) (h : H) :
    Con E0 49 [tyM.elem (a0, a1, a2, a3, a4), tyM.elem (b0, b1, b2, b3, b4)] h (.bool (ask (((a0, a1, a2, a3, a4) : ByteArray × ByteArray × Int × List tyI.I × List tyH.I) = (b0, b1, b2, b3, b4)))) h := by
  have ht := congrArg T.run (p30 a0 a1 a2 a3 a4 b0 b1 b2 b3 b4)
  have q3 : askQ (clLL 24 tyI).2 [AV.lst 2 (List.map tyI.elem a3) Tl.open_, AV.lst 2 (List.map tyI.elem b3) Tl.open_] = true := ask_true ⟨a3, b3, rfl, l3⟩
  have q4 : askQ (clLL 50 tyH).2 [AV.lst 4 (List.map tyH.elem a4) Tl.open_, AV.lst 4 (List.map tyH.elem b4) Tl.open_] = true := ask_true ⟨a4, b4, rfl, l4⟩
  have e3 : ask (AV.lst 2 (List.map tyI.elem a3) Tl.open_ = AV.lst 2 (List.map tyI.elem b3) Tl.open_) = ask (a3 = b3) := ask_LL tyI a3 b3
  have e4 : ask (AV.lst 4 (List.map tyH.elem a4) Tl.open_ = AV.lst 4 (List.map tyH.elem b4) Tl.open_) = ask (a4 = b4) := ask_LL tyH a4 b4
  rw [q3, q4, e3, e4] at ht
  have hr : (runV (XC 49 [10,17,24,31] [clLL 24 tyI, clLL 50 tyH]) (fun _ => none) Tryz.f49 (bodyOf Tryz.f49) [tyM.elem (a0, a1, a2, a3, a4), tyM.elem (b0, b1, b2, b3, b4)]).run = .ok (.bool (ask (((a0, a1, a2, a3, a4) : ByteArray × ByteArray × Int × List tyI.I × List tyH.I) = (b0, b1, b2, b3, b4)))) := by
    refine ht.trans ?_
    rw [same5]
    generalize decide (a0 = b0) = c0
    generalize decide (a1 = b1) = c1
    generalize decide (a2 = b2) = c2
    generalize ask (a3 = b3) = c3
    generalize ask (a4 = b4) = c4
    cases c0 <;> cases c1 <;> cases c2 <;> cases c3 <;> cases c4 <;> rfl
  exact Con.pureV (X := XC 49 [10,17,24,31] [clLL 24 tyI, clLL 50 tyH]) g0 noG0 (callsI rfl rfl) (fn := Tryz.f49) Tryz.func49 (c := bodyOf Tryz.f49) rfl rfl (args := [tyM.elem (a0, a1, a2, a3, a4), tyM.elem (b0, b1, b2, b3, b4)]) KOK.none (noRefs2 tyM _ _) hr (Le.refl _) rfl h
theorem con30 (x y : tyM.I) (hx : tyM.okay x) (h : H) : Con E0 49 [tyM.elem x, tyM.elem y] h (.bool (ask (x = y))) h := by
  obtain ⟨a0, a1, a2, a3, a4⟩ := x
  obtain ⟨b0, b1, b2, b3, b4⟩ := y
  exact con30r a0 a1 a2 a3 a4 b0 b1 b2 b3 b4 (Nat.lt_of_le_of_lt hx.2.2.2.1.1 (by decide)) (Nat.lt_of_le_of_lt hx.2.2.2.2.1 (by decide)) h
theorem p29 (l m : List AV) (n i : Int) : obsK (XC 48 [14,18,30] [clEE 49 tyM]) (fun _ => none) 32 (sub (bodyOf Tryz.f48) [1,1,0,1,0,0]) [1,1,0,1,0,0] (frm [(1, .lst 5 m .open_), (2, .clo 49 [] []), (15, .lst 5 l .open_), (16, .int .i64 n), (17, .int .i64 i)]) [] [1,2,6,15,16,17] =
  (T.br (decide (i < n))
    (T.br (decide ((0 : Int) ≤ i) && decide (i < (↑l.length : Int)) &&
  fitsC Tryz.prog (41 : Nat) (l.getD i.toNat undef))
      (T.br (decide ((0 : Int) ≤ i) && decide (i < (↑m.length : Int)) &&
  fitsC Tryz.prog (41 : Nat) (m.getD i.toNat undef))
        (T.br (askQ (clEE (49 : FuncId) tyM).2
  [AV.agg
      [AV.str ((l.getD i.toNat undef).cells.getD (0 : Nat) undef).toS,
        AV.str ((l.getD i.toNat undef).cells.getD (1 : Nat) undef).toS,
        AV.int IntKind.i64 ((l.getD i.toNat undef).cells.getD (2 : Nat) undef).toI,
        AV.lst (2 : Nat) ((l.getD i.toNat undef).cells.getD (3 : Nat) undef).toL Tl.open_,
        AV.lst (4 : Nat) ((l.getD i.toNat undef).cells.getD (4 : Nat) undef).toL Tl.open_],
    AV.agg
      [AV.str ((m.getD i.toNat undef).cells.getD (0 : Nat) undef).toS,
        AV.str ((m.getD i.toNat undef).cells.getD (1 : Nat) undef).toS,
        AV.int IntKind.i64 ((m.getD i.toNat undef).cells.getD (2 : Nat) undef).toI,
        AV.lst (2 : Nat) ((m.getD i.toNat undef).cells.getD (3 : Nat) undef).toL Tl.open_,
        AV.lst (4 : Nat) ((m.getD i.toNat undef).cells.getD (4 : Nat) undef).toL Tl.open_]])
          (T.br (!ask
    (AV.agg
        [AV.str ((l.getD i.toNat undef).cells.getD (0 : Nat) undef).toS,
          AV.str ((l.getD i.toNat undef).cells.getD (1 : Nat) undef).toS,
          AV.int IntKind.i64 ((l.getD i.toNat undef).cells.getD (2 : Nat) undef).toI,
          AV.lst (2 : Nat) ((l.getD i.toNat undef).cells.getD (3 : Nat) undef).toL Tl.open_,
          AV.lst (4 : Nat) ((l.getD i.toNat undef).cells.getD (4 : Nat) undef).toL Tl.open_] =
      AV.agg
        [AV.str ((m.getD i.toNat undef).cells.getD (0 : Nat) undef).toS,
          AV.str ((m.getD i.toNat undef).cells.getD (1 : Nat) undef).toS,
          AV.int IntKind.i64 ((m.getD i.toNat undef).cells.getD (2 : Nat) undef).toI,
          AV.lst (2 : Nat) ((m.getD i.toNat undef).cells.getD (3 : Nat) undef).toL Tl.open_,
          AV.lst (4 : Nat) ((m.getD i.toNat undef).cells.getD (4 : Nat) undef).toL Tl.open_]))
            (T.leaf ((X.ret,
  [AV.lst 5 m Tl.open_, AV.clo 49 [] [], AV.bool false, AV.lst 5 l Tl.open_, AV.int IntKind.i64 n,
    AV.int IntKind.i64 i],
  [Blk.var
      [AV.str ((l.getD i.toNat undef).cells.getD 0 undef).toS, AV.str ((l.getD i.toNat undef).cells.getD 1 undef).toS,
        AV.int IntKind.i64 ((l.getD i.toNat undef).cells.getD 2 undef).toI,
        AV.lst 2 ((l.getD i.toNat undef).cells.getD 3 undef).toL Tl.open_,
        AV.lst 4 ((l.getD i.toNat undef).cells.getD 4 undef).toL Tl.open_],
    Blk.var
      [AV.str ((m.getD i.toNat undef).cells.getD 0 undef).toS, AV.str ((m.getD i.toNat undef).cells.getD 1 undef).toS,
        AV.int IntKind.i64 ((m.getD i.toNat undef).cells.getD 2 undef).toI,
        AV.lst 2 ((m.getD i.toNat undef).cells.getD 3 undef).toL Tl.open_,
        AV.lst 4 ((m.getD i.toNat undef).cells.getD 4 undef).toL Tl.open_]])))
            (T.leaf ((X.normal,
  [AV.lst 5 m Tl.open_, AV.clo 49 [] [], AV.fsl 0 [], AV.lst 5 l Tl.open_, AV.int IntKind.i64 n,
    AV.int IntKind.i64 (IntKind.i64.wrap (i + 1))],
  [Blk.var
      [AV.str ((l.getD i.toNat undef).cells.getD 0 undef).toS, AV.str ((l.getD i.toNat undef).cells.getD 1 undef).toS,
        AV.int IntKind.i64 ((l.getD i.toNat undef).cells.getD 2 undef).toI,
        AV.lst 2 ((l.getD i.toNat undef).cells.getD 3 undef).toL Tl.open_,
        AV.lst 4 ((l.getD i.toNat undef).cells.getD 4 undef).toL Tl.open_],
    Blk.var
      [AV.str ((m.getD i.toNat undef).cells.getD 0 undef).toS, AV.str ((m.getD i.toNat undef).cells.getD 1 undef).toS,
        AV.int IntKind.i64 ((m.getD i.toNat undef).cells.getD 2 undef).toI,
        AV.lst 2 ((m.getD i.toNat undef).cells.getD 3 undef).toL Tl.open_,
        AV.lst 4 ((m.getD i.toNat undef).cells.getD 4 undef).toL Tl.open_]]))))
          T.fail)
        T.fail)
      T.fail)
    (T.leaf ((X.exit 0,
  [AV.lst 5 m Tl.open_, AV.clo 49 [] [], AV.fsl 0 [], AV.lst 5 l Tl.open_, AV.int IntKind.i64 n, AV.int IntKind.i64 i],
  [])))) := by kernel_rfl
theorem shape_M (x : tyM.I) : AV.agg [AV.str ((tyM.elem x).cells.getD 0 undef).toS, AV.str ((tyM.elem x).cells.getD 1 undef).toS, AV.int .i64 ((tyM.elem x).cells.getD 2 undef).toI, AV.lst 2 ((tyM.elem x).cells.getD 3 undef).toL .open_, AV.lst 4 ((tyM.elem x).cells.getD 4 undef).toL .open_] = tyM.elem x := by
  obtain ⟨a0, a1, a2, a3, a4⟩ := x; rfl
theorem calls30 {X : SX} (hx : X.call = callsBy [clEE 49 tyM]) (hE : X.E = E0) : CallOK X.E X.calls := callsBy_ok hx fun c hc => by
  rw [hE]
  obtain rfl := List.mem_singleton.1 hc
  exact clEE_con con30
def st29 (L M : List tyM.I) (j : Nat) : List (Nat × AV) := [(1, encL tyM M), (2, .clo 49 [] []), (15, encL tyM L), (16, .int .i64 (((L.map tyM.elem).length : Nat) : Int)), (17, .int .i64 j)]
theorem p29r (L M : List tyM.I) : runV (XN 48 [14,18,30]) (kAt [1,1,0,1] (st29 L M 0) [] .ret [(6, .bool false)] []) Tryz.f48 (bodyOf Tryz.f48) [encL tyM L, encL tyM M, .clo 49 [] []] =
  (T.br (!decide ((↑(List.map tyM.elem L).length : Int) = (↑(List.map tyM.elem M).length : Int)))
    (T.leaf (AV.bool false))
    (T.br (askS
  [AV.lst (5 : Nat) (List.map tyM.elem M) Tl.open_, AV.clo (49 : Nat) [] [],
    AV.lst (5 : Nat) (List.map tyM.elem L) Tl.open_, AV.int IntKind.i64 (↑(List.map tyM.elem L).length : Int),
    AV.int IntKind.i64 (0 : Int)]
  [AV.lst (5 : Nat) (List.map tyM.elem M) Tl.open_, AV.clo (49 : Nat) [] [],
    AV.lst (5 : Nat) (List.map tyM.elem L) Tl.open_, AV.int IntKind.i64 (↑(List.map tyM.elem L).length : Int),
    AV.int IntKind.i64 (↑(0 : Nat) : Int)]
  [] [])
      (T.leaf (AV.bool false))
      T.fail)) := by kernel_rfl
theorem p29n (L M : List tyM.I) : runV (XN 48 [14,18,30]) (kAt [1,1,0,1] (st29 L M 0) [] .normal (st29 L M L.length) []) Tryz.f48 (bodyOf Tryz.f48) [encL tyM L, encL tyM M, .clo 49 [] []] =
  (T.br (!decide ((↑(List.map tyM.elem L).length : Int) = (↑(List.map tyM.elem M).length : Int)))
    (T.leaf (AV.bool false))
    (T.br (askS
  [AV.lst (5 : Nat) (List.map tyM.elem M) Tl.open_, AV.clo (49 : Nat) [] [],
    AV.lst (5 : Nat) (List.map tyM.elem L) Tl.open_, AV.int IntKind.i64 (↑(List.map tyM.elem L).length : Int),
    AV.int IntKind.i64 (0 : Int)]
  [AV.lst (5 : Nat) (List.map tyM.elem M) Tl.open_, AV.clo (49 : Nat) [] [],
    AV.lst (5 : Nat) (List.map tyM.elem L) Tl.open_, AV.int IntKind.i64 (↑(List.map tyM.elem L).length : Int),
    AV.int IntKind.i64 (↑(0 : Nat) : Int)]
  [] [])
      (T.leaf (AV.bool true))
      T.fail)) := by kernel_rfl
theorem p29x (L M : List tyM.I) : runV (XN 48 [14,18,30]) (kNo [1,1,0,1]) Tryz.f48 (bodyOf Tryz.f48) [encL tyM L, encL tyM M, .clo 49 [] []] =
  (T.br (!decide ((↑(List.map tyM.elem L).length : Int) = (↑(List.map tyM.elem M).length : Int)))
    (T.leaf (AV.bool false))
    T.fail) := by kernel_rfl
theorem go29 (L M : List tyM.I) (hlen : M.length = L.length) (hl : L.length < 1000000000000000) (hok : ∀ x, x ∈ L → tyM.okay x) (j : Nat) (hj : j < L.length) :
    (L.getD j tyM.zero = M.getD j tyM.zero → Tri E0 32 [] (sub (bodyOf Tryz.f48) [1,1,0,1,0,0]) (frm (st29 L M j)) [] .normal (frm (st29 L M (j + 1))) []) ∧
    (L.getD j tyM.zero ≠ M.getD j tyM.zero → Tri E0 32 [] (sub (bodyOf Tryz.f48) [1,1,0,1,0,0]) (frm (st29 L M j)) [] .ret (frm [(6, .bool false)]) []) := by
  have ht := p29 (L.map tyM.elem) (M.map tyM.elem) (((L.map tyM.elem).length : Nat) : Int) j
  have hjm : j < M.length := by omega
  have f0 : fitsC Tryz.prog 41 (tyM.elem tyM.zero) = true := by kernel_rfl
  have hx : tyM.okay (L.getD j tyM.zero) := hok _ (by rw [List.getD_eq_getElem?_getD, List.getElem?_eq_getElem hj]; exact List.getElem_mem hj)
  rw [idx_ok hj f0, idx_ok hjm f0, lt_ok hj, Int.toNat_natCast, getD_elem hj, getD_elem hjm, shape_M, shape_M, ask_EE tyM, wrap_next (by omega)] at ht
  have hq : askQ (clEE 49 tyM).2 [tyM.elem (L.getD j tyM.zero), tyM.elem (M.getD j tyM.zero)] = true := ask_true ⟨_, _, rfl, hx⟩
  rw [hq] at ht
  refine ⟨fun he => ?_, fun he => ?_⟩
  · rw [ask_true he] at ht
    exact Tri.seen0 (X := XC 48 [14,18,30] [clEE 49 tyM]) g0 noG0 (calls30 rfl rfl) KOK.none rfl (congrArg T.run ht) (by
      intro q hq
      simp only [st29, List.mem_cons, List.not_mem_nil, or_false] at hq
      rcases hq with rfl | rfl | rfl | rfl | rfl <;> exact ⟨rfl, by first | exact encL_noRef _ _ | rfl, rfl⟩)
  · rw [ask_false he] at ht
    exact Tri.seen0 (X := XC 48 [14,18,30] [clEE 49 tyM]) g0 noG0 (calls30 rfl rfl) KOK.none rfl (congrArg T.run ht) (by
      intro q hq
      simp only [List.mem_cons, List.not_mem_nil, or_false] at hq
      rcases hq with rfl; exact ⟨rfl, rfl, rfl⟩)
theorem out29 (L M : List tyM.I) : Tri E0 32 [] (sub (bodyOf Tryz.f48) [1,1,0,1,0,0]) (frm (st29 L M L.length)) [] (.exit 0) (frm (st29 L M L.length)) [] := by
  have ht := p29 (L.map tyM.elem) (M.map tyM.elem) (((L.map tyM.elem).length : Nat) : Int) L.length
  rw [lt_no] at ht
  exact Tri.seen (X := XC 48 [14,18,30] [clEE 49 tyM]) g0 (calls30 rfl rfl) KOK.none rfl (congrArg T.run ht) (by
    intro q hq
    simp only [st29, List.mem_cons, List.not_mem_nil, or_false] at hq
    rcases hq with rfl | rfl | rfl | rfl | rfl <;> rfl)
theorem con29 (L M : List tyM.I) (hl : L.length < 1000000000000000) (hok : ∀ x, x ∈ L → tyM.okay x) (h : H) : Con E0 48 [encL tyM L, encL tyM M, .clo 49 [] []] h (.bool (ask (L = M))) h := by
  have hn : noRefs [encL tyM L, encL tyM M, .clo 49 [] []] = true := by simp only [noRefs, encL_noRef, Bool.and_true]; rfl
  have fin : ∀ {K : Known} {v : AV}, KOK E0 32 [] (bodyOf Tryz.f48) K → (runV (XN 48 [14,18,30]) K Tryz.f48 (bodyOf Tryz.f48) [encL tyM L, encL tyM M, .clo 49 [] []]).run = .ok v → v = .bool (ask (L = M)) → Con E0 48 [encL tyM L, encL tyM M, .clo 49 [] []] h (.bool (ask (L = M))) h := fun hk hr hv =>
    Con.pureV (X := XN 48 [14,18,30]) g0 noG0 (noCalls fun _ _ _ => rfl) (fn := Tryz.f48) Tryz.func48 (c := bodyOf Tryz.f48) rfl rfl (args := [encL tyM L, encL tyM M, .clo 49 [] []]) hk hn hr (hv ▸ Le.refl _) rfl h
  by_cases hm : L.length = M.length
  · have hd : (!decide ((((L.map tyM.elem).length : Nat) : Int) = (((M.map tyM.elem).length : Nat) : Int))) = false := by simp; omega
    obtain ⟨r1, r2⟩ := eq_rounds (L := L) (M := M) (z := tyM.zero) (st := st29 L M) (rt := [(6, .bool false)]) hm.symm (fun j hj => (go29 L M hm.symm hl hok j hj).1) (fun j hj => (go29 L M hm.symm hl hok j hj).2) (out29 L M)
    by_cases he : L = M
    · have hk : KOK E0 32 [] (bodyOf Tryz.f48) (kAt [1,1,0,1] (st29 L M 0) [] .normal (st29 L M L.length) []) := kAt_ok (Tri.block (id := 0) (Tri.loop (r1 he)))
      exact fin hk ((congrArg T.run (p29n L M)).trans (bF hd (bS rfl))) (by rw [ask_true he])
    · have hk : KOK E0 32 [] (bodyOf Tryz.f48) (kAt [1,1,0,1] (st29 L M 0) [] .ret [(6, .bool false)] []) := kAt_ok (Tri.block (id := 0) (Tri.loop (r2 he)))
      exact fin hk ((congrArg T.run (p29r L M)).trans (bF hd (bS rfl))) (by rw [ask_false he])
  · have hd : (!decide ((((L.map tyM.elem).length : Nat) : Int) = (((M.map tyM.elem).length : Nat) : Int))) = true := by simp; omega
    exact fin (kNo_ok (p := [1,1,0,1])) ((congrArg T.run (p29x L M)).trans (bT hd rfl)) (by rw [ask_false (fun h => hm (congrArg _ h))])
def hm34 (a0 a1 : ByteArray) (a2 : Int) (a3 : List tyI.I) (a4 : List tyH.I) (b0 b1 : ByteArray) (b2 : Int) (b3 : List tyI.I) (b4 : List tyH.I) : H := [.var [.str a0, .str a1, .int .i64 a2, encL tyI a3, encL tyH a4], .var [.str b0, .str b1, .int .i64 b2, encL tyI b3, encL tyH b4]]
def st34 (j : Nat) : List (Nat × AV) := [(2, .ptr 0 0), (3, .ptr 1 0), (5, .int .i64 j)]
theorem p34 (a0 a1 : ByteArray) (a2 : Int) (a3 : List tyI.I) (a4 : List tyH.I) (b0 b1 : ByteArray) (b2 : Int) (b3 : List tyI.I) (b4 : List tyH.I) (i : Int) : obsK (XN 51 [11,18,25,33,41,46,59]) (fun _ => none) 60 (sub (bodyOf Tryz.f51) [1,1,0,1,0,0]) [1,1,0,1,0,0] (frm [(2, .ptr 0 0), (3, .ptr 1 0), (5, .int .i64 i)]) [.var [.str a0, .str a1, .int .i64 a2, encL tyI a3, encL tyH a4], .var [.str b0, .str b1, .int .i64 b2, encL tyI b3, encL tyH b4]] [2,3,4,5] =
  (T.br (decide (i < (↑(List.map tyH.elem a4).length : Int)))
    (T.br (decide ((0 : Int) ≤ i) && decide (i < (↑(List.map tyH.elem a4).length : Int)) &&
  fitsC Tryz.prog (90 : Nat) ((List.map tyH.elem a4).getD i.toNat undef))
      (T.br (decide ((0 : Int) ≤ i) && decide (i < (↑(List.map tyH.elem b4).length : Int)) &&
  fitsC Tryz.prog (90 : Nat) ((List.map tyH.elem b4).getD i.toNat undef))
        (T.br (!((((List.map tyH.elem a4).getD i.toNat undef).cells.getD (0 : Nat) undef).toI ==
      (((List.map tyH.elem b4).getD i.toNat undef).cells.getD (0 : Nat) undef).toI &&
    ((((List.map tyH.elem a4).getD i.toNat undef).cells.getD (1 : Nat) undef).toI ==
        (((List.map tyH.elem b4).getD i.toNat undef).cells.getD (1 : Nat) undef).toI &&
      ((((List.map tyH.elem a4).getD i.toNat undef).cells.getD (2 : Nat) undef).toI ==
          (((List.map tyH.elem b4).getD i.toNat undef).cells.getD (2 : Nat) undef).toI &&
        ((((List.map tyH.elem a4).getD i.toNat undef).cells.getD (3 : Nat) undef).toS ==
            (((List.map tyH.elem b4).getD i.toNat undef).cells.getD (3 : Nat) undef).toS &&
          true)))))
          (T.leaf ((X.ret, [AV.ptr 0 0, AV.ptr 1 0, AV.bool false, AV.int IntKind.i64 i],
  [Blk.var
      [AV.str a0, AV.str a1, AV.int IntKind.i64 a2, AV.lst 2 (List.map tyI.elem a3) Tl.open_,
        AV.lst 4 (List.map tyH.elem a4) Tl.open_],
    Blk.var
      [AV.str b0, AV.str b1, AV.int IntKind.i64 b2, AV.lst 2 (List.map tyI.elem b3) Tl.open_,
        AV.lst 4 (List.map tyH.elem b4) Tl.open_]])))
          (T.leaf ((X.normal, [AV.ptr 0 0, AV.ptr 1 0, AV.fsl 0 [], AV.int IntKind.i64 (IntKind.i64.wrap (i + 1))],
  [Blk.var
      [AV.str a0, AV.str a1, AV.int IntKind.i64 a2, AV.lst 2 (List.map tyI.elem a3) Tl.open_,
        AV.lst 4 (List.map tyH.elem a4) Tl.open_],
    Blk.var
      [AV.str b0, AV.str b1, AV.int IntKind.i64 b2, AV.lst 2 (List.map tyI.elem b3) Tl.open_,
        AV.lst 4 (List.map tyH.elem b4) Tl.open_]]))))
        T.fail)
      T.fail)
    (T.leaf ((X.exit 0, [AV.ptr 0 0, AV.ptr 1 0, AV.fsl 0 [], AV.int IntKind.i64 i],
  [Blk.var
      [AV.str a0, AV.str a1, AV.int IntKind.i64 a2, AV.lst 2 (List.map tyI.elem a3) Tl.open_,
        AV.lst 4 (List.map tyH.elem a4) Tl.open_],
    Blk.var
      [AV.str b0, AV.str b1, AV.int IntKind.i64 b2, AV.lst 2 (List.map tyI.elem b3) Tl.open_,
        AV.lst 4 (List.map tyH.elem b4) Tl.open_]])))) := by kernel_rfl
theorem p34r (a0 a1 : ByteArray) (a2 : Int) (a3 : List tyI.I) (a4 : List tyH.I) (b0 b1 : ByteArray) (b2 : Int) (b3 : List tyI.I) (b4 : List tyH.I) : runV (XC 51 [11,18,25,33,41,46,59] [clLL 27 tyI]) (kAt [1,1,0,1] (st34 0) [.var [.str a0, .str a1, .int .i64 a2, encL tyI a3, encL tyH a4], .var [.str b0, .str b1, .int .i64 b2, encL tyI b3, encL tyH b4]] .ret [(4, .bool false)] [.var [.str a0, .str a1, .int .i64 a2, encL tyI a3, encL tyH a4], .var [.str b0, .str b1, .int .i64 b2, encL tyI b3, encL tyH b4]]) Tryz.f51 (bodyOf Tryz.f51) [.agg [.str a0, .str a1, .int .i64 a2, encL tyI a3, encL tyH a4], .agg [.str b0, .str b1, .int .i64 b2, encL tyI b3, encL tyH b4]] =
  (T.br (!decide (a0 = b0))
    (T.br true
      (T.br true
        (T.br true
          (T.br true
            (T.leaf (AV.bool false))
            (T.br (askS [AV.ptr (0 : Nat) (0 : Nat), AV.ptr (1 : Nat) (0 : Nat), AV.int IntKind.i64 (0 : Int)]
  [AV.ptr (0 : Nat) (0 : Nat), AV.ptr (1 : Nat) (0 : Nat), AV.int IntKind.i64 (↑(0 : Nat) : Int)]
  [Blk.var
      [AV.str a0, AV.str a1, AV.int IntKind.i64 a2, AV.lst (2 : Nat) (List.map tyI.elem a3) Tl.open_,
        AV.lst (4 : Nat) (List.map tyH.elem a4) Tl.open_],
    Blk.var
      [AV.str b0, AV.str b1, AV.int IntKind.i64 b2, AV.lst (2 : Nat) (List.map tyI.elem b3) Tl.open_,
        AV.lst (4 : Nat) (List.map tyH.elem b4) Tl.open_]]
  [Blk.var
      [AV.str a0, AV.str a1, AV.int IntKind.i64 a2, AV.lst (2 : Nat) (List.map tyI.elem a3) Tl.open_,
        AV.lst (4 : Nat) (List.map tyH.elem a4) Tl.open_],
    Blk.var
      [AV.str b0, AV.str b1, AV.int IntKind.i64 b2, AV.lst (2 : Nat) (List.map tyI.elem b3) Tl.open_,
        AV.lst (4 : Nat) (List.map tyH.elem b4) Tl.open_]])
              (T.leaf (AV.bool false))
              T.fail))
          (T.br (!decide ((↑(List.map tyH.elem a4).length : Int) = (↑(List.map tyH.elem b4).length : Int)))
            (T.leaf (AV.bool false))
            (T.br (askS [AV.ptr (0 : Nat) (0 : Nat), AV.ptr (1 : Nat) (0 : Nat), AV.int IntKind.i64 (0 : Int)]
  [AV.ptr (0 : Nat) (0 : Nat), AV.ptr (1 : Nat) (0 : Nat), AV.int IntKind.i64 (↑(0 : Nat) : Int)]
  [Blk.var
      [AV.str a0, AV.str a1, AV.int IntKind.i64 a2, AV.lst (2 : Nat) (List.map tyI.elem a3) Tl.open_,
        AV.lst (4 : Nat) (List.map tyH.elem a4) Tl.open_],
    Blk.var
      [AV.str b0, AV.str b1, AV.int IntKind.i64 b2, AV.lst (2 : Nat) (List.map tyI.elem b3) Tl.open_,
        AV.lst (4 : Nat) (List.map tyH.elem b4) Tl.open_]]
  [Blk.var
      [AV.str a0, AV.str a1, AV.int IntKind.i64 a2, AV.lst (2 : Nat) (List.map tyI.elem a3) Tl.open_,
        AV.lst (4 : Nat) (List.map tyH.elem a4) Tl.open_],
    Blk.var
      [AV.str b0, AV.str b1, AV.int IntKind.i64 b2, AV.lst (2 : Nat) (List.map tyI.elem b3) Tl.open_,
        AV.lst (4 : Nat) (List.map tyH.elem b4) Tl.open_]])
              (T.leaf (AV.bool false))
              T.fail)))
        (T.br (askQ (clLL (27 : FuncId) tyI).2
  [AV.lst (2 : Nat) (List.map tyI.elem a3) Tl.open_, AV.lst (2 : Nat) (List.map tyI.elem b3) Tl.open_])
          (T.br (!ask
    (AV.lst (2 : Nat) (List.map tyI.elem a3) Tl.open_ = AV.lst (2 : Nat) (List.map tyI.elem b3) Tl.open_))
            (T.br true
              (T.leaf (AV.bool false))
              (T.br (askS [AV.ptr (0 : Nat) (0 : Nat), AV.ptr (1 : Nat) (0 : Nat), AV.int IntKind.i64 (0 : Int)]
  [AV.ptr (0 : Nat) (0 : Nat), AV.ptr (1 : Nat) (0 : Nat), AV.int IntKind.i64 (↑(0 : Nat) : Int)]
  [Blk.var
      [AV.str a0, AV.str a1, AV.int IntKind.i64 a2, AV.lst (2 : Nat) (List.map tyI.elem a3) Tl.open_,
        AV.lst (4 : Nat) (List.map tyH.elem a4) Tl.open_],
    Blk.var
      [AV.str b0, AV.str b1, AV.int IntKind.i64 b2, AV.lst (2 : Nat) (List.map tyI.elem b3) Tl.open_,
        AV.lst (4 : Nat) (List.map tyH.elem b4) Tl.open_]]
  [Blk.var
      [AV.str a0, AV.str a1, AV.int IntKind.i64 a2, AV.lst (2 : Nat) (List.map tyI.elem a3) Tl.open_,
        AV.lst (4 : Nat) (List.map tyH.elem a4) Tl.open_],
    Blk.var
      [AV.str b0, AV.str b1, AV.int IntKind.i64 b2, AV.lst (2 : Nat) (List.map tyI.elem b3) Tl.open_,
        AV.lst (4 : Nat) (List.map tyH.elem b4) Tl.open_]])
                (T.leaf (AV.bool false))
                T.fail))
            (T.br (!decide ((↑(List.map tyH.elem a4).length : Int) = (↑(List.map tyH.elem b4).length : Int)))
              (T.leaf (AV.bool false))
              (T.br (askS [AV.ptr (0 : Nat) (0 : Nat), AV.ptr (1 : Nat) (0 : Nat), AV.int IntKind.i64 (0 : Int)]
  [AV.ptr (0 : Nat) (0 : Nat), AV.ptr (1 : Nat) (0 : Nat), AV.int IntKind.i64 (↑(0 : Nat) : Int)]
  [Blk.var
      [AV.str a0, AV.str a1, AV.int IntKind.i64 a2, AV.lst (2 : Nat) (List.map tyI.elem a3) Tl.open_,
        AV.lst (4 : Nat) (List.map tyH.elem a4) Tl.open_],
    Blk.var
      [AV.str b0, AV.str b1, AV.int IntKind.i64 b2, AV.lst (2 : Nat) (List.map tyI.elem b3) Tl.open_,
        AV.lst (4 : Nat) (List.map tyH.elem b4) Tl.open_]]
  [Blk.var
      [AV.str a0, AV.str a1, AV.int IntKind.i64 a2, AV.lst (2 : Nat) (List.map tyI.elem a3) Tl.open_,
        AV.lst (4 : Nat) (List.map tyH.elem a4) Tl.open_],
    Blk.var
      [AV.str b0, AV.str b1, AV.int IntKind.i64 b2, AV.lst (2 : Nat) (List.map tyI.elem b3) Tl.open_,
        AV.lst (4 : Nat) (List.map tyH.elem b4) Tl.open_]])
                (T.leaf (AV.bool false))
                T.fail)))
          T.fail))
      (T.br (!decide (a2 = b2))
        (T.br true
          (T.br true
            (T.leaf (AV.bool false))
            (T.br (askS [AV.ptr (0 : Nat) (0 : Nat), AV.ptr (1 : Nat) (0 : Nat), AV.int IntKind.i64 (0 : Int)]
  [AV.ptr (0 : Nat) (0 : Nat), AV.ptr (1 : Nat) (0 : Nat), AV.int IntKind.i64 (↑(0 : Nat) : Int)]
  [Blk.var
      [AV.str a0, AV.str a1, AV.int IntKind.i64 a2, AV.lst (2 : Nat) (List.map tyI.elem a3) Tl.open_,
        AV.lst (4 : Nat) (List.map tyH.elem a4) Tl.open_],
    Blk.var
      [AV.str b0, AV.str b1, AV.int IntKind.i64 b2, AV.lst (2 : Nat) (List.map tyI.elem b3) Tl.open_,
        AV.lst (4 : Nat) (List.map tyH.elem b4) Tl.open_]]
  [Blk.var
      [AV.str a0, AV.str a1, AV.int IntKind.i64 a2, AV.lst (2 : Nat) (List.map tyI.elem a3) Tl.open_,
        AV.lst (4 : Nat) (List.map tyH.elem a4) Tl.open_],
    Blk.var
      [AV.str b0, AV.str b1, AV.int IntKind.i64 b2, AV.lst (2 : Nat) (List.map tyI.elem b3) Tl.open_,
        AV.lst (4 : Nat) (List.map tyH.elem b4) Tl.open_]])
              (T.leaf (AV.bool false))
              T.fail))
          (T.br (!decide ((↑(List.map tyH.elem a4).length : Int) = (↑(List.map tyH.elem b4).length : Int)))
            (T.leaf (AV.bool false))
            (T.br (askS [AV.ptr (0 : Nat) (0 : Nat), AV.ptr (1 : Nat) (0 : Nat), AV.int IntKind.i64 (0 : Int)]
  [AV.ptr (0 : Nat) (0 : Nat), AV.ptr (1 : Nat) (0 : Nat), AV.int IntKind.i64 (↑(0 : Nat) : Int)]
  [Blk.var
      [AV.str a0, AV.str a1, AV.int IntKind.i64 a2, AV.lst (2 : Nat) (List.map tyI.elem a3) Tl.open_,
        AV.lst (4 : Nat) (List.map tyH.elem a4) Tl.open_],
    Blk.var
      [AV.str b0, AV.str b1, AV.int IntKind.i64 b2, AV.lst (2 : Nat) (List.map tyI.elem b3) Tl.open_,
        AV.lst (4 : Nat) (List.map tyH.elem b4) Tl.open_]]
  [Blk.var
      [AV.str a0, AV.str a1, AV.int IntKind.i64 a2, AV.lst (2 : Nat) (List.map tyI.elem a3) Tl.open_,
        AV.lst (4 : Nat) (List.map tyH.elem a4) Tl.open_],
    Blk.var
      [AV.str b0, AV.str b1, AV.int IntKind.i64 b2, AV.lst (2 : Nat) (List.map tyI.elem b3) Tl.open_,
        AV.lst (4 : Nat) (List.map tyH.elem b4) Tl.open_]])
              (T.leaf (AV.bool false))
              T.fail)))
        (T.br (askQ (clLL (27 : FuncId) tyI).2
  [AV.lst (2 : Nat) (List.map tyI.elem a3) Tl.open_, AV.lst (2 : Nat) (List.map tyI.elem b3) Tl.open_])
          (T.br (!ask
    (AV.lst (2 : Nat) (List.map tyI.elem a3) Tl.open_ = AV.lst (2 : Nat) (List.map tyI.elem b3) Tl.open_))
            (T.br true
              (T.leaf (AV.bool false))
              (T.br (askS [AV.ptr (0 : Nat) (0 : Nat), AV.ptr (1 : Nat) (0 : Nat), AV.int IntKind.i64 (0 : Int)]
  [AV.ptr (0 : Nat) (0 : Nat), AV.ptr (1 : Nat) (0 : Nat), AV.int IntKind.i64 (↑(0 : Nat) : Int)]
  [Blk.var
      [AV.str a0, AV.str a1, AV.int IntKind.i64 a2, AV.lst (2 : Nat) (List.map tyI.elem a3) Tl.open_,
        AV.lst (4 : Nat) (List.map tyH.elem a4) Tl.open_],
    Blk.var
      [AV.str b0, AV.str b1, AV.int IntKind.i64 b2, AV.lst (2 : Nat) (List.map tyI.elem b3) Tl.open_,
        AV.lst (4 : Nat) (List.map tyH.elem b4) Tl.open_]]
  [Blk.var
      [AV.str a0, AV.str a1, AV.int IntKind.i64 a2, AV.lst (2 : Nat) (List.map tyI.elem a3) Tl.open_,
        AV.lst (4 : Nat) (List.map tyH.elem a4) Tl.open_],
    Blk.var
      [AV.str b0, AV.str b1, AV.int IntKind.i64 b2, AV.lst (2 : Nat) (List.map tyI.elem b3) Tl.open_,
        AV.lst (4 : Nat) (List.map tyH.elem b4) Tl.open_]])
                (T.leaf (AV.bool false))
                T.fail))
            (T.br (!decide ((↑(List.map tyH.elem a4).length : Int) = (↑(List.map tyH.elem b4).length : Int)))
              (T.leaf (AV.bool false))
              (T.br (askS [AV.ptr (0 : Nat) (0 : Nat), AV.ptr (1 : Nat) (0 : Nat), AV.int IntKind.i64 (0 : Int)]
  [AV.ptr (0 : Nat) (0 : Nat), AV.ptr (1 : Nat) (0 : Nat), AV.int IntKind.i64 (↑(0 : Nat) : Int)]
  [Blk.var
      [AV.str a0, AV.str a1, AV.int IntKind.i64 a2, AV.lst (2 : Nat) (List.map tyI.elem a3) Tl.open_,
        AV.lst (4 : Nat) (List.map tyH.elem a4) Tl.open_],
    Blk.var
      [AV.str b0, AV.str b1, AV.int IntKind.i64 b2, AV.lst (2 : Nat) (List.map tyI.elem b3) Tl.open_,
        AV.lst (4 : Nat) (List.map tyH.elem b4) Tl.open_]]
  [Blk.var
      [AV.str a0, AV.str a1, AV.int IntKind.i64 a2, AV.lst (2 : Nat) (List.map tyI.elem a3) Tl.open_,
        AV.lst (4 : Nat) (List.map tyH.elem a4) Tl.open_],
    Blk.var
      [AV.str b0, AV.str b1, AV.int IntKind.i64 b2, AV.lst (2 : Nat) (List.map tyI.elem b3) Tl.open_,
        AV.lst (4 : Nat) (List.map tyH.elem b4) Tl.open_]])
                (T.leaf (AV.bool false))
                T.fail)))
          T.fail)))
    (T.br (!decide (a1 = b1))
      (T.br true
        (T.br true
          (T.br true
            (T.leaf (AV.bool false))
            (T.br (askS [AV.ptr (0 : Nat) (0 : Nat), AV.ptr (1 : Nat) (0 : Nat), AV.int IntKind.i64 (0 : Int)]
  [AV.ptr (0 : Nat) (0 : Nat), AV.ptr (1 : Nat) (0 : Nat), AV.int IntKind.i64 (↑(0 : Nat) : Int)]
  [Blk.var
      [AV.str a0, AV.str a1, AV.int IntKind.i64 a2, AV.lst (2 : Nat) (List.map tyI.elem a3) Tl.open_,
        AV.lst (4 : Nat) (List.map tyH.elem a4) Tl.open_],
    Blk.var
      [AV.str b0, AV.str b1, AV.int IntKind.i64 b2, AV.lst (2 : Nat) (List.map tyI.elem b3) Tl.open_,
        AV.lst (4 : Nat) (List.map tyH.elem b4) Tl.open_]]
  [Blk.var
      [AV.str a0, AV.str a1, AV.int IntKind.i64 a2, AV.lst (2 : Nat) (List.map tyI.elem a3) Tl.open_,
        AV.lst (4 : Nat) (List.map tyH.elem a4) Tl.open_],
    Blk.var
      [AV.str b0, AV.str b1, AV.int IntKind.i64 b2, AV.lst (2 : Nat) (List.map tyI.elem b3) Tl.open_,
        AV.lst (4 : Nat) (List.map tyH.elem b4) Tl.open_]])
              (T.leaf (AV.bool false))
              T.fail))
          (T.br (!decide ((↑(List.map tyH.elem a4).length : Int) = (↑(List.map tyH.elem b4).length : Int)))
            (T.leaf (AV.bool false))
            (T.br (askS [AV.ptr (0 : Nat) (0 : Nat), AV.ptr (1 : Nat) (0 : Nat), AV.int IntKind.i64 (0 : Int)]
  [AV.ptr (0 : Nat) (0 : Nat), AV.ptr (1 : Nat) (0 : Nat), AV.int IntKind.i64 (↑(0 : Nat) : Int)]
  [Blk.var
      [AV.str a0, AV.str a1, AV.int IntKind.i64 a2, AV.lst (2 : Nat) (List.map tyI.elem a3) Tl.open_,
        AV.lst (4 : Nat) (List.map tyH.elem a4) Tl.open_],
    Blk.var
      [AV.str b0, AV.str b1, AV.int IntKind.i64 b2, AV.lst (2 : Nat) (List.map tyI.elem b3) Tl.open_,
        AV.lst (4 : Nat) (List.map tyH.elem b4) Tl.open_]]
  [Blk.var
      [AV.str a0, AV.str a1, AV.int IntKind.i64 a2, AV.lst (2 : Nat) (List.map tyI.elem a3) Tl.open_,
        AV.lst (4 : Nat) (List.map tyH.elem a4) Tl.open_],
    Blk.var
      [AV.str b0, AV.str b1, AV.int IntKind.i64 b2, AV.lst (2 : Nat) (List.map tyI.elem b3) Tl.open_,
        AV.lst (4 : Nat) (List.map tyH.elem b4) Tl.open_]])
              (T.leaf (AV.bool false))
              T.fail)))
        (T.br (askQ (clLL (27 : FuncId) tyI).2
  [AV.lst (2 : Nat) (List.map tyI.elem a3) Tl.open_, AV.lst (2 : Nat) (List.map tyI.elem b3) Tl.open_])
          (T.br (!ask
    (AV.lst (2 : Nat) (List.map tyI.elem a3) Tl.open_ = AV.lst (2 : Nat) (List.map tyI.elem b3) Tl.open_))
            (T.br true
              (T.leaf (AV.bool false))
              (T.br (askS [AV.ptr (0 : Nat) (0 : Nat), AV.ptr (1 : Nat) (0 : Nat), AV.int IntKind.i64 (0 : Int)]
  [AV.ptr (0 : Nat) (0 : Nat), AV.ptr (1 : Nat) (0 : Nat), AV.int IntKind.i64 (↑(0 : Nat) : Int)]
  [Blk.var
      [AV.str a0, AV.str a1, AV.int IntKind.i64 a2, AV.lst (2 : Nat) (List.map tyI.elem a3) Tl.open_,
        AV.lst (4 : Nat) (List.map tyH.elem a4) Tl.open_],
    Blk.var
      [AV.str b0, AV.str b1, AV.int IntKind.i64 b2, AV.lst (2 : Nat) (List.map tyI.elem b3) Tl.open_,
        AV.lst (4 : Nat) (List.map tyH.elem b4) Tl.open_]]
  [Blk.var
      [AV.str a0, AV.str a1, AV.int IntKind.i64 a2, AV.lst (2 : Nat) (List.map tyI.elem a3) Tl.open_,
        AV.lst (4 : Nat) (List.map tyH.elem a4) Tl.open_],
    Blk.var
      [AV.str b0, AV.str b1, AV.int IntKind.i64 b2, AV.lst (2 : Nat) (List.map tyI.elem b3) Tl.open_,
        AV.lst (4 : Nat) (List.map tyH.elem b4) Tl.open_]])
                (T.leaf (AV.bool false))
                T.fail))
            (T.br (!decide ((↑(List.map tyH.elem a4).length : Int) = (↑(List.map tyH.elem b4).length : Int)))
              (T.leaf (AV.bool false))
              (T.br (askS [AV.ptr (0 : Nat) (0 : Nat), AV.ptr (1 : Nat) (0 : Nat), AV.int IntKind.i64 (0 : Int)]
  [AV.ptr (0 : Nat) (0 : Nat), AV.ptr (1 : Nat) (0 : Nat), AV.int IntKind.i64 (↑(0 : Nat) : Int)]
  [Blk.var
      [AV.str a0, AV.str a1, AV.int IntKind.i64 a2, AV.lst (2 : Nat) (List.map tyI.elem a3) Tl.open_,
        AV.lst (4 : Nat) (List.map tyH.elem a4) Tl.open_],
    Blk.var
      [AV.str b0, AV.str b1, AV.int IntKind.i64 b2, AV.lst (2 : Nat) (List.map tyI.elem b3) Tl.open_,
        AV.lst (4 : Nat) (List.map tyH.elem b4) Tl.open_]]
  [Blk.var
      [AV.str a0, AV.str a1, AV.int IntKind.i64 a2, AV.lst (2 : Nat) (List.map tyI.elem a3) Tl.open_,
        AV.lst (4 : Nat) (List.map tyH.elem a4) Tl.open_],
    Blk.var
      [AV.str b0, AV.str b1, AV.int IntKind.i64 b2, AV.lst (2 : Nat) (List.map tyI.elem b3) Tl.open_,
        AV.lst (4 : Nat) (List.map tyH.elem b4) Tl.open_]])
                (T.leaf (AV.bool false))
                T.fail)))
          T.fail))
      (T.br (!decide (a2 = b2))
        (T.br true
          (T.br true
            (T.leaf (AV.bool false))
            (T.br (askS [AV.ptr (0 : Nat) (0 : Nat), AV.ptr (1 : Nat) (0 : Nat), AV.int IntKind.i64 (0 : Int)]
  [AV.ptr (0 : Nat) (0 : Nat), AV.ptr (1 : Nat) (0 : Nat), AV.int IntKind.i64 (↑(0 : Nat) : Int)]
  [Blk.var
      [AV.str a0, AV.str a1, AV.int IntKind.i64 a2, AV.lst (2 : Nat) (List.map tyI.elem a3) Tl.open_,
        AV.lst (4 : Nat) (List.map tyH.elem a4) Tl.open_],
    Blk.var
      [AV.str b0, AV.str b1, AV.int IntKind.i64 b2, AV.lst (2 : Nat) (List.map tyI.elem b3) Tl.open_,
        AV.lst (4 : Nat) (List.map tyH.elem b4) Tl.open_]]
  [Blk.var
      [AV.str a0, AV.str a1, AV.int IntKind.i64 a2, AV.lst (2 : Nat) (List.map tyI.elem a3) Tl.open_,
        AV.lst (4 : Nat) (List.map tyH.elem a4) Tl.open_],
    Blk.var
      [AV.str b0, AV.str b1, AV.int IntKind.i64 b2, AV.lst (2 : Nat) (List.map tyI.elem b3) Tl.open_,
        AV.lst (4 : Nat) (List.map tyH.elem b4) Tl.open_]])
              (T.leaf (AV.bool false))
              T.fail))
          (T.br (!decide ((↑(List.map tyH.elem a4).length : Int) = (↑(List.map tyH.elem b4).length : Int)))
            (T.leaf (AV.bool false))
            (T.br (askS [AV.ptr (0 : Nat) (0 : Nat), AV.ptr (1 : Nat) (0 : Nat), AV.int IntKind.i64 (0 : Int)]
  [AV.ptr (0 : Nat) (0 : Nat), AV.ptr (1 : Nat) (0 : Nat), AV.int IntKind.i64 (↑(0 : Nat) : Int)]
  [Blk.var
      [AV.str a0, AV.str a1, AV.int IntKind.i64 a2, AV.lst (2 : Nat) (List.map tyI.elem a3) Tl.open_,
        AV.lst (4 : Nat) (List.map tyH.elem a4) Tl.open_],
    Blk.var
      [AV.str b0, AV.str b1, AV.int IntKind.i64 b2, AV.lst (2 : Nat) (List.map tyI.elem b3) Tl.open_,
        AV.lst (4 : Nat) (List.map tyH.elem b4) Tl.open_]]
  [Blk.var
      [AV.str a0, AV.str a1, AV.int IntKind.i64 a2, AV.lst (2 : Nat) (List.map tyI.elem a3) Tl.open_,
        AV.lst (4 : Nat) (List.map tyH.elem a4) Tl.open_],
    Blk.var
      [AV.str b0, AV.str b1, AV.int IntKind.i64 b2, AV.lst (2 : Nat) (List.map tyI.elem b3) Tl.open_,
        AV.lst (4 : Nat) (List.map tyH.elem b4) Tl.open_]])
              (T.leaf (AV.bool false))
              T.fail)))
        (T.br (askQ (clLL (27 : FuncId) tyI).2
  [AV.lst (2 : Nat) (List.map tyI.elem a3) Tl.open_, AV.lst (2 : Nat) (List.map tyI.elem b3) Tl.open_])
          (T.br (!ask
    (AV.lst (2 : Nat) (List.map tyI.elem a3) Tl.open_ = AV.lst (2 : Nat) (List.map tyI.elem b3) Tl.open_))
            (T.br true
              (T.leaf (AV.bool false))
              (T.br (askS [AV.ptr (0 : Nat) (0 : Nat), AV.ptr (1 : Nat) (0 : Nat), AV.int IntKind.i64 (0 : Int)]
  [AV.ptr (0 : Nat) (0 : Nat), AV.ptr (1 : Nat) (0 : Nat), AV.int IntKind.i64 (↑(0 : Nat) : Int)]
  [Blk.var
      [AV.str a0, AV.str a1, AV.int IntKind.i64 a2, AV.lst (2 : Nat) (List.map tyI.elem a3) Tl.open_,
        AV.lst (4 : Nat) (List.map tyH.elem a4) Tl.open_],
    Blk.var
      [AV.str b0, AV.str b1, AV.int IntKind.i64 b2, AV.lst (2 : Nat) (List.map tyI.elem b3) Tl.open_,
        AV.lst (4 : Nat) (List.map tyH.elem b4) Tl.open_]]
  [Blk.var
      [AV.str a0, AV.str a1, AV.int IntKind.i64 a2, AV.lst (2 : Nat) (List.map tyI.elem a3) Tl.open_,
        AV.lst (4 : Nat) (List.map tyH.elem a4) Tl.open_],
    Blk.var
      [AV.str b0, AV.str b1, AV.int IntKind.i64 b2, AV.lst (2 : Nat) (List.map tyI.elem b3) Tl.open_,
        AV.lst (4 : Nat) (List.map tyH.elem b4) Tl.open_]])
                (T.leaf (AV.bool false))
                T.fail))
            (T.br (!decide ((↑(List.map tyH.elem a4).length : Int) = (↑(List.map tyH.elem b4).length : Int)))
              (T.leaf (AV.bool false))
              (T.br (askS [AV.ptr (0 : Nat) (0 : Nat), AV.ptr (1 : Nat) (0 : Nat), AV.int IntKind.i64 (0 : Int)]
  [AV.ptr (0 : Nat) (0 : Nat), AV.ptr (1 : Nat) (0 : Nat), AV.int IntKind.i64 (↑(0 : Nat) : Int)]
  [Blk.var
      [AV.str a0, AV.str a1, AV.int IntKind.i64 a2, AV.lst (2 : Nat) (List.map tyI.elem a3) Tl.open_,
        AV.lst (4 : Nat) (List.map tyH.elem a4) Tl.open_],
    Blk.var
      [AV.str b0, AV.str b1, AV.int IntKind.i64 b2, AV.lst (2 : Nat) (List.map tyI.elem b3) Tl.open_,
        AV.lst (4 : Nat) (List.map tyH.elem b4) Tl.open_]]
  [Blk.var
      [AV.str a0, AV.str a1, AV.int IntKind.i64 a2, AV.lst (2 : Nat) (List.map tyI.elem a3) Tl.open_,
        AV.lst (4 : Nat) (List.map tyH.elem a4) Tl.open_],
    Blk.var
      [AV.str b0, AV.str b1, AV.int IntKind.i64 b2, AV.lst (2 : Nat) (List.map tyI.elem b3) Tl.open_,
        AV.lst (4 : Nat) (List.map tyH.elem b4) Tl.open_]])
                (T.leaf (AV.bool false))
                T.fail)))
          T.fail)))) := by kernel_rfl
theorem p34n (a0 a1 : ByteArray) (a2 : Int) (a3 : List tyI.I) (a4 : List tyH.I) (b0 b1 : ByteArray) (b2 : Int) (b3 : List tyI.I) (b4 : List tyH.I) : runV (XC 51 [11,18,25,33,41,46,59] [clLL 27 tyI]) (kAt [1,1,0,1] (st34 0) [.var [.str a0, .str a1, .int .i64 a2, encL tyI a3, encL tyH a4], .var [.str b0, .str b1, .int .i64 b2, encL tyI b3, encL tyH b4]] .normal (st34 a4.length) [.var [.str a0, .str a1, .int .i64 a2, encL tyI a3, encL tyH a4], .var [.str b0, .str b1, .int .i64 b2, encL tyI b3, encL tyH b4]]) Tryz.f51 (bodyOf Tryz.f51) [.agg [.str a0, .str a1, .int .i64 a2, encL tyI a3, encL tyH a4], .agg [.str b0, .str b1, .int .i64 b2, encL tyI b3, encL tyH b4]] =
  (T.br (!decide (a0 = b0))
    (T.br true
      (T.br true
        (T.br true
          (T.br true
            (T.leaf (AV.bool false))
            (T.br (askS [AV.ptr (0 : Nat) (0 : Nat), AV.ptr (1 : Nat) (0 : Nat), AV.int IntKind.i64 (0 : Int)]
  [AV.ptr (0 : Nat) (0 : Nat), AV.ptr (1 : Nat) (0 : Nat), AV.int IntKind.i64 (↑(0 : Nat) : Int)]
  [Blk.var
      [AV.str a0, AV.str a1, AV.int IntKind.i64 a2, AV.lst (2 : Nat) (List.map tyI.elem a3) Tl.open_,
        AV.lst (4 : Nat) (List.map tyH.elem a4) Tl.open_],
    Blk.var
      [AV.str b0, AV.str b1, AV.int IntKind.i64 b2, AV.lst (2 : Nat) (List.map tyI.elem b3) Tl.open_,
        AV.lst (4 : Nat) (List.map tyH.elem b4) Tl.open_]]
  [Blk.var
      [AV.str a0, AV.str a1, AV.int IntKind.i64 a2, AV.lst (2 : Nat) (List.map tyI.elem a3) Tl.open_,
        AV.lst (4 : Nat) (List.map tyH.elem a4) Tl.open_],
    Blk.var
      [AV.str b0, AV.str b1, AV.int IntKind.i64 b2, AV.lst (2 : Nat) (List.map tyI.elem b3) Tl.open_,
        AV.lst (4 : Nat) (List.map tyH.elem b4) Tl.open_]])
              (T.leaf (AV.bool true))
              T.fail))
          (T.br (!decide ((↑(List.map tyH.elem a4).length : Int) = (↑(List.map tyH.elem b4).length : Int)))
            (T.leaf (AV.bool false))
            (T.br (askS [AV.ptr (0 : Nat) (0 : Nat), AV.ptr (1 : Nat) (0 : Nat), AV.int IntKind.i64 (0 : Int)]
  [AV.ptr (0 : Nat) (0 : Nat), AV.ptr (1 : Nat) (0 : Nat), AV.int IntKind.i64 (↑(0 : Nat) : Int)]
  [Blk.var
      [AV.str a0, AV.str a1, AV.int IntKind.i64 a2, AV.lst (2 : Nat) (List.map tyI.elem a3) Tl.open_,
        AV.lst (4 : Nat) (List.map tyH.elem a4) Tl.open_],
    Blk.var
      [AV.str b0, AV.str b1, AV.int IntKind.i64 b2, AV.lst (2 : Nat) (List.map tyI.elem b3) Tl.open_,
        AV.lst (4 : Nat) (List.map tyH.elem b4) Tl.open_]]
  [Blk.var
      [AV.str a0, AV.str a1, AV.int IntKind.i64 a2, AV.lst (2 : Nat) (List.map tyI.elem a3) Tl.open_,
        AV.lst (4 : Nat) (List.map tyH.elem a4) Tl.open_],
    Blk.var
      [AV.str b0, AV.str b1, AV.int IntKind.i64 b2, AV.lst (2 : Nat) (List.map tyI.elem b3) Tl.open_,
        AV.lst (4 : Nat) (List.map tyH.elem b4) Tl.open_]])
              (T.leaf (AV.bool true))
              T.fail)))
        (T.br (askQ (clLL (27 : FuncId) tyI).2
  [AV.lst (2 : Nat) (List.map tyI.elem a3) Tl.open_, AV.lst (2 : Nat) (List.map tyI.elem b3) Tl.open_])
          (T.br (!ask
    (AV.lst (2 : Nat) (List.map tyI.elem a3) Tl.open_ = AV.lst (2 : Nat) (List.map tyI.elem b3) Tl.open_))
            (T.br true
              (T.leaf (AV.bool false))
              (T.br (askS [AV.ptr (0 : Nat) (0 : Nat), AV.ptr (1 : Nat) (0 : Nat), AV.int IntKind.i64 (0 : Int)]
  [AV.ptr (0 : Nat) (0 : Nat), AV.ptr (1 : Nat) (0 : Nat), AV.int IntKind.i64 (↑(0 : Nat) : Int)]
  [Blk.var
      [AV.str a0, AV.str a1, AV.int IntKind.i64 a2, AV.lst (2 : Nat) (List.map tyI.elem a3) Tl.open_,
        AV.lst (4 : Nat) (List.map tyH.elem a4) Tl.open_],
    Blk.var
      [AV.str b0, AV.str b1, AV.int IntKind.i64 b2, AV.lst (2 : Nat) (List.map tyI.elem b3) Tl.open_,
        AV.lst (4 : Nat) (List.map tyH.elem b4) Tl.open_]]
  [Blk.var
      [AV.str a0, AV.str a1, AV.int IntKind.i64 a2, AV.lst (2 : Nat) (List.map tyI.elem a3) Tl.open_,
        AV.lst (4 : Nat) (List.map tyH.elem a4) Tl.open_],
    Blk.var
      [AV.str b0, AV.str b1, AV.int IntKind.i64 b2, AV.lst (2 : Nat) (List.map tyI.elem b3) Tl.open_,
        AV.lst (4 : Nat) (List.map tyH.elem b4) Tl.open_]])
                (T.leaf (AV.bool true))
                T.fail))
            (T.br (!decide ((↑(List.map tyH.elem a4).length : Int) = (↑(List.map tyH.elem b4).length : Int)))
              (T.leaf (AV.bool false))
              (T.br (askS [AV.ptr (0 : Nat) (0 : Nat), AV.ptr (1 : Nat) (0 : Nat), AV.int IntKind.i64 (0 : Int)]
  [AV.ptr (0 : Nat) (0 : Nat), AV.ptr (1 : Nat) (0 : Nat), AV.int IntKind.i64 (↑(0 : Nat) : Int)]
  [Blk.var
      [AV.str a0, AV.str a1, AV.int IntKind.i64 a2, AV.lst (2 : Nat) (List.map tyI.elem a3) Tl.open_,
        AV.lst (4 : Nat) (List.map tyH.elem a4) Tl.open_],
    Blk.var
      [AV.str b0, AV.str b1, AV.int IntKind.i64 b2, AV.lst (2 : Nat) (List.map tyI.elem b3) Tl.open_,
        AV.lst (4 : Nat) (List.map tyH.elem b4) Tl.open_]]
  [Blk.var
      [AV.str a0, AV.str a1, AV.int IntKind.i64 a2, AV.lst (2 : Nat) (List.map tyI.elem a3) Tl.open_,
        AV.lst (4 : Nat) (List.map tyH.elem a4) Tl.open_],
    Blk.var
      [AV.str b0, AV.str b1, AV.int IntKind.i64 b2, AV.lst (2 : Nat) (List.map tyI.elem b3) Tl.open_,
        AV.lst (4 : Nat) (List.map tyH.elem b4) Tl.open_]])
                (T.leaf (AV.bool true))
                T.fail)))
          T.fail))
      (T.br (!decide (a2 = b2))
        (T.br true
          (T.br true
            (T.leaf (AV.bool false))
            (T.br (askS [AV.ptr (0 : Nat) (0 : Nat), AV.ptr (1 : Nat) (0 : Nat), AV.int IntKind.i64 (0 : Int)]
  [AV.ptr (0 : Nat) (0 : Nat), AV.ptr (1 : Nat) (0 : Nat), AV.int IntKind.i64 (↑(0 : Nat) : Int)]
  [Blk.var
      [AV.str a0, AV.str a1, AV.int IntKind.i64 a2, AV.lst (2 : Nat) (List.map tyI.elem a3) Tl.open_,
        AV.lst (4 : Nat) (List.map tyH.elem a4) Tl.open_],
    Blk.var
      [AV.str b0, AV.str b1, AV.int IntKind.i64 b2, AV.lst (2 : Nat) (List.map tyI.elem b3) Tl.open_,
        AV.lst (4 : Nat) (List.map tyH.elem b4) Tl.open_]]
  [Blk.var
      [AV.str a0, AV.str a1, AV.int IntKind.i64 a2, AV.lst (2 : Nat) (List.map tyI.elem a3) Tl.open_,
        AV.lst (4 : Nat) (List.map tyH.elem a4) Tl.open_],
    Blk.var
      [AV.str b0, AV.str b1, AV.int IntKind.i64 b2, AV.lst (2 : Nat) (List.map tyI.elem b3) Tl.open_,
        AV.lst (4 : Nat) (List.map tyH.elem b4) Tl.open_]])
              (T.leaf (AV.bool true))
              T.fail))
          (T.br (!decide ((↑(List.map tyH.elem a4).length : Int) = (↑(List.map tyH.elem b4).length : Int)))
            (T.leaf (AV.bool false))
            (T.br (askS [AV.ptr (0 : Nat) (0 : Nat), AV.ptr (1 : Nat) (0 : Nat), AV.int IntKind.i64 (0 : Int)]
  [AV.ptr (0 : Nat) (0 : Nat), AV.ptr (1 : Nat) (0 : Nat), AV.int IntKind.i64 (↑(0 : Nat) : Int)]
  [Blk.var
      [AV.str a0, AV.str a1, AV.int IntKind.i64 a2, AV.lst (2 : Nat) (List.map tyI.elem a3) Tl.open_,
        AV.lst (4 : Nat) (List.map tyH.elem a4) Tl.open_],
    Blk.var
      [AV.str b0, AV.str b1, AV.int IntKind.i64 b2, AV.lst (2 : Nat) (List.map tyI.elem b3) Tl.open_,
        AV.lst (4 : Nat) (List.map tyH.elem b4) Tl.open_]]
  [Blk.var
      [AV.str a0, AV.str a1, AV.int IntKind.i64 a2, AV.lst (2 : Nat) (List.map tyI.elem a3) Tl.open_,
        AV.lst (4 : Nat) (List.map tyH.elem a4) Tl.open_],
    Blk.var
      [AV.str b0, AV.str b1, AV.int IntKind.i64 b2, AV.lst (2 : Nat) (List.map tyI.elem b3) Tl.open_,
        AV.lst (4 : Nat) (List.map tyH.elem b4) Tl.open_]])
              (T.leaf (AV.bool true))
              T.fail)))
        (T.br (askQ (clLL (27 : FuncId) tyI).2
  [AV.lst (2 : Nat) (List.map tyI.elem a3) Tl.open_, AV.lst (2 : Nat) (List.map tyI.elem b3) Tl.open_])
          (T.br (!ask
    (AV.lst (2 : Nat) (List.map tyI.elem a3) Tl.open_ = AV.lst (2 : Nat) (List.map tyI.elem b3) Tl.open_))
            (T.br true
              (T.leaf (AV.bool false))
              (T.br (askS [AV.ptr (0 : Nat) (0 : Nat), AV.ptr (1 : Nat) (0 : Nat), AV.int IntKind.i64 (0 : Int)]
  [AV.ptr (0 : Nat) (0 : Nat), AV.ptr (1 : Nat) (0 : Nat), AV.int IntKind.i64 (↑(0 : Nat) : Int)]
  [Blk.var
      [AV.str a0, AV.str a1, AV.int IntKind.i64 a2, AV.lst (2 : Nat) (List.map tyI.elem a3) Tl.open_,
        AV.lst (4 : Nat) (List.map tyH.elem a4) Tl.open_],
    Blk.var
      [AV.str b0, AV.str b1, AV.int IntKind.i64 b2, AV.lst (2 : Nat) (List.map tyI.elem b3) Tl.open_,
        AV.lst (4 : Nat) (List.map tyH.elem b4) Tl.open_]]
  [Blk.var
      [AV.str a0, AV.str a1, AV.int IntKind.i64 a2, AV.lst (2 : Nat) (List.map tyI.elem a3) Tl.open_,
        AV.lst (4 : Nat) (List.map tyH.elem a4) Tl.open_],
    Blk.var
      [AV.str b0, AV.str b1, AV.int IntKind.i64 b2, AV.lst (2 : Nat) (List.map tyI.elem b3) Tl.open_,
        AV.lst (4 : Nat) (List.map tyH.elem b4) Tl.open_]])
                (T.leaf (AV.bool true))
                T.fail))
            (T.br (!decide ((↑(List.map tyH.elem a4).length : Int) = (↑(List.map tyH.elem b4).length : Int)))
              (T.leaf (AV.bool false))
              (T.br (askS [AV.ptr (0 : Nat) (0 : Nat), AV.ptr (1 : Nat) (0 : Nat), AV.int IntKind.i64 (0 : Int)]
  [AV.ptr (0 : Nat) (0 : Nat), AV.ptr (1 : Nat) (0 : Nat), AV.int IntKind.i64 (↑(0 : Nat) : Int)]
  [Blk.var
      [AV.str a0, AV.str a1, AV.int IntKind.i64 a2, AV.lst (2 : Nat) (List.map tyI.elem a3) Tl.open_,
        AV.lst (4 : Nat) (List.map tyH.elem a4) Tl.open_],
    Blk.var
      [AV.str b0, AV.str b1, AV.int IntKind.i64 b2, AV.lst (2 : Nat) (List.map tyI.elem b3) Tl.open_,
        AV.lst (4 : Nat) (List.map tyH.elem b4) Tl.open_]]
  [Blk.var
      [AV.str a0, AV.str a1, AV.int IntKind.i64 a2, AV.lst (2 : Nat) (List.map tyI.elem a3) Tl.open_,
        AV.lst (4 : Nat) (List.map tyH.elem a4) Tl.open_],
    Blk.var
      [AV.str b0, AV.str b1, AV.int IntKind.i64 b2, AV.lst (2 : Nat) (List.map tyI.elem b3) Tl.open_,
        AV.lst (4 : Nat) (List.map tyH.elem b4) Tl.open_]])
                (T.leaf (AV.bool true))
                T.fail)))
          T.fail)))
    (T.br (!decide (a1 = b1))
      (T.br true
        (T.br true
          (T.br true
            (T.leaf (AV.bool false))
            (T.br (askS [AV.ptr (0 : Nat) (0 : Nat), AV.ptr (1 : Nat) (0 : Nat), AV.int IntKind.i64 (0 : Int)]
  [AV.ptr (0 : Nat) (0 : Nat), AV.ptr (1 : Nat) (0 : Nat), AV.int IntKind.i64 (↑(0 : Nat) : Int)]
  [Blk.var
      [AV.str a0, AV.str a1, AV.int IntKind.i64 a2, AV.lst (2 : Nat) (List.map tyI.elem a3) Tl.open_,
        AV.lst (4 : Nat) (List.map tyH.elem a4) Tl.open_],
    Blk.var
      [AV.str b0, AV.str b1, AV.int IntKind.i64 b2, AV.lst (2 : Nat) (List.map tyI.elem b3) Tl.open_,
        AV.lst (4 : Nat) (List.map tyH.elem b4) Tl.open_]]
  [Blk.var
      [AV.str a0, AV.str a1, AV.int IntKind.i64 a2, AV.lst (2 : Nat) (List.map tyI.elem a3) Tl.open_,
        AV.lst (4 : Nat) (List.map tyH.elem a4) Tl.open_],
    Blk.var
      [AV.str b0, AV.str b1, AV.int IntKind.i64 b2, AV.lst (2 : Nat) (List.map tyI.elem b3) Tl.open_,
        AV.lst (4 : Nat) (List.map tyH.elem b4) Tl.open_]])
              (T.leaf (AV.bool true))
              T.fail))
          (T.br (!decide ((↑(List.map tyH.elem a4).length : Int) = (↑(List.map tyH.elem b4).length : Int)))
            (T.leaf (AV.bool false))
            (T.br (askS [AV.ptr (0 : Nat) (0 : Nat), AV.ptr (1 : Nat) (0 : Nat), AV.int IntKind.i64 (0 : Int)]
  [AV.ptr (0 : Nat) (0 : Nat), AV.ptr (1 : Nat) (0 : Nat), AV.int IntKind.i64 (↑(0 : Nat) : Int)]
  [Blk.var
      [AV.str a0, AV.str a1, AV.int IntKind.i64 a2, AV.lst (2 : Nat) (List.map tyI.elem a3) Tl.open_,
        AV.lst (4 : Nat) (List.map tyH.elem a4) Tl.open_],
    Blk.var
      [AV.str b0, AV.str b1, AV.int IntKind.i64 b2, AV.lst (2 : Nat) (List.map tyI.elem b3) Tl.open_,
        AV.lst (4 : Nat) (List.map tyH.elem b4) Tl.open_]]
  [Blk.var
      [AV.str a0, AV.str a1, AV.int IntKind.i64 a2, AV.lst (2 : Nat) (List.map tyI.elem a3) Tl.open_,
        AV.lst (4 : Nat) (List.map tyH.elem a4) Tl.open_],
    Blk.var
      [AV.str b0, AV.str b1, AV.int IntKind.i64 b2, AV.lst (2 : Nat) (List.map tyI.elem b3) Tl.open_,
        AV.lst (4 : Nat) (List.map tyH.elem b4) Tl.open_]])
              (T.leaf (AV.bool true))
              T.fail)))
        (T.br (askQ (clLL (27 : FuncId) tyI).2
  [AV.lst (2 : Nat) (List.map tyI.elem a3) Tl.open_, AV.lst (2 : Nat) (List.map tyI.elem b3) Tl.open_])
          (T.br (!ask
    (AV.lst (2 : Nat) (List.map tyI.elem a3) Tl.open_ = AV.lst (2 : Nat) (List.map tyI.elem b3) Tl.open_))
            (T.br true
              (T.leaf (AV.bool false))
              (T.br (askS [AV.ptr (0 : Nat) (0 : Nat), AV.ptr (1 : Nat) (0 : Nat), AV.int IntKind.i64 (0 : Int)]
  [AV.ptr (0 : Nat) (0 : Nat), AV.ptr (1 : Nat) (0 : Nat), AV.int IntKind.i64 (↑(0 : Nat) : Int)]
  [Blk.var
      [AV.str a0, AV.str a1, AV.int IntKind.i64 a2, AV.lst (2 : Nat) (List.map tyI.elem a3) Tl.open_,
        AV.lst (4 : Nat) (List.map tyH.elem a4) Tl.open_],
    Blk.var
      [AV.str b0, AV.str b1, AV.int IntKind.i64 b2, AV.lst (2 : Nat) (List.map tyI.elem b3) Tl.open_,
        AV.lst (4 : Nat) (List.map tyH.elem b4) Tl.open_]]
  [Blk.var
      [AV.str a0, AV.str a1, AV.int IntKind.i64 a2, AV.lst (2 : Nat) (List.map tyI.elem a3) Tl.open_,
        AV.lst (4 : Nat) (List.map tyH.elem a4) Tl.open_],
    Blk.var
      [AV.str b0, AV.str b1, AV.int IntKind.i64 b2, AV.lst (2 : Nat) (List.map tyI.elem b3) Tl.open_,
        AV.lst (4 : Nat) (List.map tyH.elem b4) Tl.open_]])
                (T.leaf (AV.bool true))
                T.fail))
            (T.br (!decide ((↑(List.map tyH.elem a4).length : Int) = (↑(List.map tyH.elem b4).length : Int)))
              (T.leaf (AV.bool false))
              (T.br (askS [AV.ptr (0 : Nat) (0 : Nat), AV.ptr (1 : Nat) (0 : Nat), AV.int IntKind.i64 (0 : Int)]
  [AV.ptr (0 : Nat) (0 : Nat), AV.ptr (1 : Nat) (0 : Nat), AV.int IntKind.i64 (↑(0 : Nat) : Int)]
  [Blk.var
      [AV.str a0, AV.str a1, AV.int IntKind.i64 a2, AV.lst (2 : Nat) (List.map tyI.elem a3) Tl.open_,
        AV.lst (4 : Nat) (List.map tyH.elem a4) Tl.open_],
    Blk.var
      [AV.str b0, AV.str b1, AV.int IntKind.i64 b2, AV.lst (2 : Nat) (List.map tyI.elem b3) Tl.open_,
        AV.lst (4 : Nat) (List.map tyH.elem b4) Tl.open_]]
  [Blk.var
      [AV.str a0, AV.str a1, AV.int IntKind.i64 a2, AV.lst (2 : Nat) (List.map tyI.elem a3) Tl.open_,
        AV.lst (4 : Nat) (List.map tyH.elem a4) Tl.open_],
    Blk.var
      [AV.str b0, AV.str b1, AV.int IntKind.i64 b2, AV.lst (2 : Nat) (List.map tyI.elem b3) Tl.open_,
        AV.lst (4 : Nat) (List.map tyH.elem b4) Tl.open_]])
                (T.leaf (AV.bool true))
                T.fail)))
          T.fail))
      (T.br (!decide (a2 = b2))
        (T.br true
          (T.br true
            (T.leaf (AV.bool false))
            (T.br (askS [AV.ptr (0 : Nat) (0 : Nat), AV.ptr (1 : Nat) (0 : Nat), AV.int IntKind.i64 (0 : Int)]
  [AV.ptr (0 : Nat) (0 : Nat), AV.ptr (1 : Nat) (0 : Nat), AV.int IntKind.i64 (↑(0 : Nat) : Int)]
  [Blk.var
      [AV.str a0, AV.str a1, AV.int IntKind.i64 a2, AV.lst (2 : Nat) (List.map tyI.elem a3) Tl.open_,
        AV.lst (4 : Nat) (List.map tyH.elem a4) Tl.open_],
    Blk.var
      [AV.str b0, AV.str b1, AV.int IntKind.i64 b2, AV.lst (2 : Nat) (List.map tyI.elem b3) Tl.open_,
        AV.lst (4 : Nat) (List.map tyH.elem b4) Tl.open_]]
  [Blk.var
      [AV.str a0, AV.str a1, AV.int IntKind.i64 a2, AV.lst (2 : Nat) (List.map tyI.elem a3) Tl.open_,
        AV.lst (4 : Nat) (List.map tyH.elem a4) Tl.open_],
    Blk.var
      [AV.str b0, AV.str b1, AV.int IntKind.i64 b2, AV.lst (2 : Nat) (List.map tyI.elem b3) Tl.open_,
        AV.lst (4 : Nat) (List.map tyH.elem b4) Tl.open_]])
              (T.leaf (AV.bool true))
              T.fail))
          (T.br (!decide ((↑(List.map tyH.elem a4).length : Int) = (↑(List.map tyH.elem b4).length : Int)))
            (T.leaf (AV.bool false))
            (T.br (askS [AV.ptr (0 : Nat) (0 : Nat), AV.ptr (1 : Nat) (0 : Nat), AV.int IntKind.i64 (0 : Int)]
  [AV.ptr (0 : Nat) (0 : Nat), AV.ptr (1 : Nat) (0 : Nat), AV.int IntKind.i64 (↑(0 : Nat) : Int)]
  [Blk.var
      [AV.str a0, AV.str a1, AV.int IntKind.i64 a2, AV.lst (2 : Nat) (List.map tyI.elem a3) Tl.open_,
        AV.lst (4 : Nat) (List.map tyH.elem a4) Tl.open_],
    Blk.var
      [AV.str b0, AV.str b1, AV.int IntKind.i64 b2, AV.lst (2 : Nat) (List.map tyI.elem b3) Tl.open_,
        AV.lst (4 : Nat) (List.map tyH.elem b4) Tl.open_]]
  [Blk.var
      [AV.str a0, AV.str a1, AV.int IntKind.i64 a2, AV.lst (2 : Nat) (List.map tyI.elem a3) Tl.open_,
        AV.lst (4 : Nat) (List.map tyH.elem a4) Tl.open_],
    Blk.var
      [AV.str b0, AV.str b1, AV.int IntKind.i64 b2, AV.lst (2 : Nat) (List.map tyI.elem b3) Tl.open_,
        AV.lst (4 : Nat) (List.map tyH.elem b4) Tl.open_]])
              (T.leaf (AV.bool true))
              T.fail)))
        (T.br (askQ (clLL (27 : FuncId) tyI).2
  [AV.lst (2 : Nat) (List.map tyI.elem a3) Tl.open_, AV.lst (2 : Nat) (List.map tyI.elem b3) Tl.open_])
          (T.br (!ask
    (AV.lst (2 : Nat) (List.map tyI.elem a3) Tl.open_ = AV.lst (2 : Nat) (List.map tyI.elem b3) Tl.open_))
            (T.br true
              (T.leaf (AV.bool false))
              (T.br (askS [AV.ptr (0 : Nat) (0 : Nat), AV.ptr (1 : Nat) (0 : Nat), AV.int IntKind.i64 (0 : Int)]
  [AV.ptr (0 : Nat) (0 : Nat), AV.ptr (1 : Nat) (0 : Nat), AV.int IntKind.i64 (↑(0 : Nat) : Int)]
  [Blk.var
      [AV.str a0, AV.str a1, AV.int IntKind.i64 a2, AV.lst (2 : Nat) (List.map tyI.elem a3) Tl.open_,
        AV.lst (4 : Nat) (List.map tyH.elem a4) Tl.open_],
    Blk.var
      [AV.str b0, AV.str b1, AV.int IntKind.i64 b2, AV.lst (2 : Nat) (List.map tyI.elem b3) Tl.open_,
        AV.lst (4 : Nat) (List.map tyH.elem b4) Tl.open_]]
  [Blk.var
      [AV.str a0, AV.str a1, AV.int IntKind.i64 a2, AV.lst (2 : Nat) (List.map tyI.elem a3) Tl.open_,
        AV.lst (4 : Nat) (List.map tyH.elem a4) Tl.open_],
    Blk.var
      [AV.str b0, AV.str b1, AV.int IntKind.i64 b2, AV.lst (2 : Nat) (List.map tyI.elem b3) Tl.open_,
        AV.lst (4 : Nat) (List.map tyH.elem b4) Tl.open_]])
                (T.leaf (AV.bool true))
                T.fail))
            (T.br (!decide ((↑(List.map tyH.elem a4).length : Int) = (↑(List.map tyH.elem b4).length : Int)))
              (T.leaf (AV.bool false))
              (T.br (askS [AV.ptr (0 : Nat) (0 : Nat), AV.ptr (1 : Nat) (0 : Nat), AV.int IntKind.i64 (0 : Int)]
  [AV.ptr (0 : Nat) (0 : Nat), AV.ptr (1 : Nat) (0 : Nat), AV.int IntKind.i64 (↑(0 : Nat) : Int)]
  [Blk.var
      [AV.str a0, AV.str a1, AV.int IntKind.i64 a2, AV.lst (2 : Nat) (List.map tyI.elem a3) Tl.open_,
        AV.lst (4 : Nat) (List.map tyH.elem a4) Tl.open_],
    Blk.var
      [AV.str b0, AV.str b1, AV.int IntKind.i64 b2, AV.lst (2 : Nat) (List.map tyI.elem b3) Tl.open_,
        AV.lst (4 : Nat) (List.map tyH.elem b4) Tl.open_]]
  [Blk.var
      [AV.str a0, AV.str a1, AV.int IntKind.i64 a2, AV.lst (2 : Nat) (List.map tyI.elem a3) Tl.open_,
        AV.lst (4 : Nat) (List.map tyH.elem a4) Tl.open_],
    Blk.var
      [AV.str b0, AV.str b1, AV.int IntKind.i64 b2, AV.lst (2 : Nat) (List.map tyI.elem b3) Tl.open_,
        AV.lst (4 : Nat) (List.map tyH.elem b4) Tl.open_]])
                (T.leaf (AV.bool true))
                T.fail)))
          T.fail)))) := by kernel_rfl
theorem p34x (a0 a1 : ByteArray) (a2 : Int) (a3 : List tyI.I) (a4 : List tyH.I) (b0 b1 : ByteArray) (b2 : Int) (b3 : List tyI.I) (b4 : List tyH.I) : runV (XC 51 [11,18,25,33,41,46,59] [clLL 27 tyI]) (kNo [1,1,0,1]) Tryz.f51 (bodyOf Tryz.f51) [.agg [.str a0, .str a1, .int .i64 a2, encL tyI a3, encL tyH a4], .agg [.str b0, .str b1, .int .i64 b2, encL tyI b3, encL tyH b4]] =
  (T.br (!decide (a0 = b0))
    (T.br true
      (T.br true
        (T.br true
          (T.br true
            (T.leaf (AV.bool false))
            T.fail)
          (T.br (!decide ((↑(List.map tyH.elem a4).length : Int) = (↑(List.map tyH.elem b4).length : Int)))
            (T.leaf (AV.bool false))
            T.fail))
        (T.br (askQ (clLL (27 : FuncId) tyI).2
  [AV.lst (2 : Nat) (List.map tyI.elem a3) Tl.open_, AV.lst (2 : Nat) (List.map tyI.elem b3) Tl.open_])
          (T.br (!ask
    (AV.lst (2 : Nat) (List.map tyI.elem a3) Tl.open_ = AV.lst (2 : Nat) (List.map tyI.elem b3) Tl.open_))
            (T.br true
              (T.leaf (AV.bool false))
              T.fail)
            (T.br (!decide ((↑(List.map tyH.elem a4).length : Int) = (↑(List.map tyH.elem b4).length : Int)))
              (T.leaf (AV.bool false))
              T.fail))
          T.fail))
      (T.br (!decide (a2 = b2))
        (T.br true
          (T.br true
            (T.leaf (AV.bool false))
            T.fail)
          (T.br (!decide ((↑(List.map tyH.elem a4).length : Int) = (↑(List.map tyH.elem b4).length : Int)))
            (T.leaf (AV.bool false))
            T.fail))
        (T.br (askQ (clLL (27 : FuncId) tyI).2
  [AV.lst (2 : Nat) (List.map tyI.elem a3) Tl.open_, AV.lst (2 : Nat) (List.map tyI.elem b3) Tl.open_])
          (T.br (!ask
    (AV.lst (2 : Nat) (List.map tyI.elem a3) Tl.open_ = AV.lst (2 : Nat) (List.map tyI.elem b3) Tl.open_))
            (T.br true
              (T.leaf (AV.bool false))
              T.fail)
            (T.br (!decide ((↑(List.map tyH.elem a4).length : Int) = (↑(List.map tyH.elem b4).length : Int)))
              (T.leaf (AV.bool false))
              T.fail))
          T.fail)))
    (T.br (!decide (a1 = b1))
      (T.br true
        (T.br true
          (T.br true
            (T.leaf (AV.bool false))
            T.fail)
          (T.br (!decide ((↑(List.map tyH.elem a4).length : Int) = (↑(List.map tyH.elem b4).length : Int)))
            (T.leaf (AV.bool false))
            T.fail))
        (T.br (askQ (clLL (27 : FuncId) tyI).2
  [AV.lst (2 : Nat) (List.map tyI.elem a3) Tl.open_, AV.lst (2 : Nat) (List.map tyI.elem b3) Tl.open_])
          (T.br (!ask
    (AV.lst (2 : Nat) (List.map tyI.elem a3) Tl.open_ = AV.lst (2 : Nat) (List.map tyI.elem b3) Tl.open_))
            (T.br true
              (T.leaf (AV.bool false))
              T.fail)
            (T.br (!decide ((↑(List.map tyH.elem a4).length : Int) = (↑(List.map tyH.elem b4).length : Int)))
              (T.leaf (AV.bool false))
              T.fail))
          T.fail))
      (T.br (!decide (a2 = b2))
        (T.br true
          (T.br true
            (T.leaf (AV.bool false))
            T.fail)
          (T.br (!decide ((↑(List.map tyH.elem a4).length : Int) = (↑(List.map tyH.elem b4).length : Int)))
            (T.leaf (AV.bool false))
            T.fail))
        (T.br (askQ (clLL (27 : FuncId) tyI).2
  [AV.lst (2 : Nat) (List.map tyI.elem a3) Tl.open_, AV.lst (2 : Nat) (List.map tyI.elem b3) Tl.open_])
          (T.br (!ask
    (AV.lst (2 : Nat) (List.map tyI.elem a3) Tl.open_ = AV.lst (2 : Nat) (List.map tyI.elem b3) Tl.open_))
            (T.br true
              (T.leaf (AV.bool false))
              T.fail)
            (T.br (!decide ((↑(List.map tyH.elem a4).length : Int) = (↑(List.map tyH.elem b4).length : Int)))
              (T.leaf (AV.bool false))
              T.fail))
          T.fail)))) := by kernel_rfl
theorem calls63 {X : SX} (hx : X.call = callsBy [clLL 27 tyI]) (hE : X.E = E0) : CallOK X.E X.calls := callsBy_ok hx fun c hc => by
  rw [hE]
  obtain rfl := List.mem_singleton.1 hc
  exact clLL_con con63
theorem go34 (a0 a1 : ByteArray) (a2 : Int) (a3 : List tyI.I) (a4 : List tyH.I) (b0 b1 : ByteArray) (b2 : Int) (b3 : List tyI.I) (b4 : List tyH.I) (hlen : b4.length = a4.length) (hl : a4.length < 1000000000000000) (j : Nat) (hj : j < a4.length) :
    (a4.getD j tyH.zero = b4.getD j tyH.zero → Tri E0 60 [] (sub (bodyOf Tryz.f51) [1,1,0,1,0,0]) (frm (st34 j)) (hm34 a0 a1 a2 a3 a4 b0 b1 b2 b3 b4) .normal (frm (st34 (j + 1))) (hm34 a0 a1 a2 a3 a4 b0 b1 b2 b3 b4)) ∧
    (a4.getD j tyH.zero ≠ b4.getD j tyH.zero → Tri E0 60 [] (sub (bodyOf Tryz.f51) [1,1,0,1,0,0]) (frm (st34 j)) (hm34 a0 a1 a2 a3 a4 b0 b1 b2 b3 b4) .ret (frm [(4, .bool false)]) (hm34 a0 a1 a2 a3 a4 b0 b1 b2 b3 b4)) := by
  have ht := p34 a0 a1 a2 a3 a4 b0 b1 b2 b3 b4 j
  have hjm : j < b4.length := by omega
  have f0 : fitsC Tryz.prog 90 (tyH.elem tyH.zero) = true := by kernel_rfl
  rw [idx_ok hj f0, idx_ok hjm f0, lt_ok hj, Int.toNat_natCast, getD_elem hj, getD_elem hjm, cmp_tyH, wrap_next (by omega)] at ht
  refine ⟨fun he => ?_, fun he => ?_⟩
  · rw [ask_true he] at ht
    exact Tri.seen (X := XN 51 [11,18,25,33,41,46,59]) g0 (noCalls fun _ _ _ => rfl) KOK.none rfl (congrArg T.run ht) (by
      intro q hq
      simp only [st34, List.mem_cons, List.not_mem_nil, or_false] at hq
      rcases hq with rfl | rfl | rfl <;> rfl)
  · rw [ask_false he] at ht
    exact Tri.seen (X := XN 51 [11,18,25,33,41,46,59]) g0 (noCalls fun _ _ _ => rfl) KOK.none rfl (congrArg T.run ht) (by
      intro q hq
      simp only [List.mem_cons, List.not_mem_nil, or_false] at hq
      rcases hq with rfl; rfl)
theorem out34 (a0 a1 : ByteArray) (a2 : Int) (a3 : List tyI.I) (a4 : List tyH.I) (b0 b1 : ByteArray) (b2 : Int) (b3 : List tyI.I) (b4 : List tyH.I) : Tri E0 60 [] (sub (bodyOf Tryz.f51) [1,1,0,1,0,0]) (frm (st34 a4.length)) (hm34 a0 a1 a2 a3 a4 b0 b1 b2 b3 b4) (.exit 0) (frm (st34 a4.length)) (hm34 a0 a1 a2 a3 a4 b0 b1 b2 b3 b4) := by
  have ht := p34 a0 a1 a2 a3 a4 b0 b1 b2 b3 b4 a4.length
  rw [lt_no] at ht
  exact Tri.seen (X := XN 51 [11,18,25,33,41,46,59]) g0 (noCalls fun _ _ _ => rfl) KOK.none rfl (congrArg T.run ht) (by
    intro q hq
    simp only [st34, List.mem_cons, List.not_mem_nil, or_false] at hq
    rcases hq with rfl | rfl | rfl <;> rfl)
theorem con34r (a0 a1 : ByteArray) (a2 : Int) (a3 : List tyI.I) (a4 : List tyH.I) (b0 b1 : ByteArray) (b2 : Int) (b3 : List tyI.I) (b4 : List tyH.I) (l3 : a3.length < 1000000000000000) (l4 : a4.length < 1000000000000000) (h : H) :
    Con E0 51 [tyM.elem (a0, a1, a2, a3, a4), tyM.elem (b0, b1, b2, b3, b4)] h (.bool (ask (((a0, a1, a2, a3, a4) : ByteArray × ByteArray × Int × List tyI.I × List tyH.I) = (b0, b1, b2, b3, b4)))) h := by
  have q3 : askQ (clLL 27 tyI).2 [AV.lst 2 (List.map tyI.elem a3) Tl.open_, AV.lst 2 (List.map tyI.elem b3) Tl.open_] = true := ask_true ⟨a3, b3, rfl, l3⟩
  have e3 : ask (AV.lst 2 (List.map tyI.elem a3) Tl.open_ = AV.lst 2 (List.map tyI.elem b3) Tl.open_) = ask (a3 = b3) := ask_LL tyI a3 b3
  have fin : ∀ {K : Known}, KOK E0 60 [] (bodyOf Tryz.f51) K → (runV (XC 51 [11,18,25,33,41,46,59] [clLL 27 tyI]) K Tryz.f51 (bodyOf Tryz.f51) [tyM.elem (a0, a1, a2, a3, a4), tyM.elem (b0, b1, b2, b3, b4)]).run = .ok (.bool (decide (a0 = b0) && (decide (a1 = b1) && (decide (a2 = b2) && (ask (a3 = b3) && ask (a4 = b4)))))) → Con E0 51 [tyM.elem (a0, a1, a2, a3, a4), tyM.elem (b0, b1, b2, b3, b4)] h (.bool (ask (((a0, a1, a2, a3, a4) : ByteArray × ByteArray × Int × List tyI.I × List tyH.I) = (b0, b1, b2, b3, b4)))) h := fun hk hr => by
    rw [same5]
    exact Con.pureV (X := XC 51 [11,18,25,33,41,46,59] [clLL 27 tyI]) g0 noG0 (calls63 rfl rfl) (fn := Tryz.f51) Tryz.func51 (c := bodyOf Tryz.f51) rfl rfl (args := [tyM.elem (a0, a1, a2, a3, a4), tyM.elem (b0, b1, b2, b3, b4)]) hk (noRefs2 tyM _ _) hr (Le.refl _) rfl h
  by_cases hm : a4.length = b4.length
  · have hd : (!decide ((((a4.map tyH.elem).length : Nat) : Int) = (((b4.map tyH.elem).length : Nat) : Int))) = false := by simp; omega
    obtain ⟨r1, r2⟩ := eq_rounds (L := a4) (M := b4) (z := tyH.zero) (st := st34) (rt := [(4, .bool false)]) hm.symm (fun j hj => (go34 a0 a1 a2 a3 a4 b0 b1 b2 b3 b4 hm.symm l4 j hj).1) (fun j hj => (go34 a0 a1 a2 a3 a4 b0 b1 b2 b3 b4 hm.symm l4 j hj).2) (out34 a0 a1 a2 a3 a4 b0 b1 b2 b3 b4)
    by_cases he : a4 = b4
    · have hk : KOK E0 60 [] (bodyOf Tryz.f51) (kAt [1,1,0,1] (st34 0) (hm34 a0 a1 a2 a3 a4 b0 b1 b2 b3 b4) .normal (st34 a4.length) (hm34 a0 a1 a2 a3 a4 b0 b1 b2 b3 b4)) := kAt_ok (Tri.block (id := 0) (Tri.loop (r1 he)))
      have ht := p34n a0 a1 a2 a3 a4 b0 b1 b2 b3 b4
      have hS : (askS [AV.ptr (0 : Nat) (0 : Nat), AV.ptr (1 : Nat) (0 : Nat), AV.int IntKind.i64 (0 : Int)]
  [AV.ptr (0 : Nat) (0 : Nat), AV.ptr (1 : Nat) (0 : Nat), AV.int IntKind.i64 (↑(0 : Nat) : Int)]
  [Blk.var
      [AV.str a0, AV.str a1, AV.int IntKind.i64 a2, AV.lst (2 : Nat) (List.map tyI.elem a3) Tl.open_,
        AV.lst (4 : Nat) (List.map tyH.elem a4) Tl.open_],
    Blk.var
      [AV.str b0, AV.str b1, AV.int IntKind.i64 b2, AV.lst (2 : Nat) (List.map tyI.elem b3) Tl.open_,
        AV.lst (4 : Nat) (List.map tyH.elem b4) Tl.open_]]
  [Blk.var
      [AV.str a0, AV.str a1, AV.int IntKind.i64 a2, AV.lst (2 : Nat) (List.map tyI.elem a3) Tl.open_,
        AV.lst (4 : Nat) (List.map tyH.elem a4) Tl.open_],
    Blk.var
      [AV.str b0, AV.str b1, AV.int IntKind.i64 b2, AV.lst (2 : Nat) (List.map tyI.elem b3) Tl.open_,
        AV.lst (4 : Nat) (List.map tyH.elem b4) Tl.open_]]) = true := askS_self _ _
      rw [hS, hd, q3, e3] at ht
      refine fin hk ((congrArg T.run ht).trans ?_)
      rw [ask_true he]
      generalize decide (a0 = b0) = c0
      generalize decide (a1 = b1) = c1
      generalize decide (a2 = b2) = c2
      generalize ask (a3 = b3) = c3
      cases c0 <;> cases c1 <;> cases c2 <;> cases c3 <;> rfl
    · have hk : KOK E0 60 [] (bodyOf Tryz.f51) (kAt [1,1,0,1] (st34 0) (hm34 a0 a1 a2 a3 a4 b0 b1 b2 b3 b4) .ret [(4, .bool false)] (hm34 a0 a1 a2 a3 a4 b0 b1 b2 b3 b4)) := kAt_ok (Tri.block (id := 0) (Tri.loop (r2 he)))
      have ht := p34r a0 a1 a2 a3 a4 b0 b1 b2 b3 b4
      have hS : (askS [AV.ptr (0 : Nat) (0 : Nat), AV.ptr (1 : Nat) (0 : Nat), AV.int IntKind.i64 (0 : Int)]
  [AV.ptr (0 : Nat) (0 : Nat), AV.ptr (1 : Nat) (0 : Nat), AV.int IntKind.i64 (↑(0 : Nat) : Int)]
  [Blk.var
      [AV.str a0, AV.str a1, AV.int IntKind.i64 a2, AV.lst (2 : Nat) (List.map tyI.elem a3) Tl.open_,
        AV.lst (4 : Nat) (List.map tyH.elem a4) Tl.open_],
    Blk.var
      [AV.str b0, AV.str b1, AV.int IntKind.i64 b2, AV.lst (2 : Nat) (List.map tyI.elem b3) Tl.open_,
        AV.lst (4 : Nat) (List.map tyH.elem b4) Tl.open_]]
  [Blk.var
      [AV.str a0, AV.str a1, AV.int IntKind.i64 a2, AV.lst (2 : Nat) (List.map tyI.elem a3) Tl.open_,
        AV.lst (4 : Nat) (List.map tyH.elem a4) Tl.open_],
    Blk.var
      [AV.str b0, AV.str b1, AV.int IntKind.i64 b2, AV.lst (2 : Nat) (List.map tyI.elem b3) Tl.open_,
        AV.lst (4 : Nat) (List.map tyH.elem b4) Tl.open_]]) = true := askS_self _ _
      rw [hS, hd, q3, e3] at ht
      refine fin hk ((congrArg T.run ht).trans ?_)
      rw [ask_false he]
      generalize decide (a0 = b0) = c0
      generalize decide (a1 = b1) = c1
      generalize decide (a2 = b2) = c2
      generalize ask (a3 = b3) = c3
      cases c0 <;> cases c1 <;> cases c2 <;> cases c3 <;> rfl
  · have hd : (!decide ((((a4.map tyH.elem).length : Nat) : Int) = (((b4.map tyH.elem).length : Nat) : Int))) = true := by simp; omega
    have ht := p34x a0 a1 a2 a3 a4 b0 b1 b2 b3 b4
    rw [hd, q3, e3] at ht
    refine fin (kNo_ok (p := [1,1,0,1])) ((congrArg T.run ht).trans ?_)
    rw [ask_false (fun h => hm (congrArg List.length h))]
    generalize decide (a0 = b0) = c0
    generalize decide (a1 = b1) = c1
    generalize decide (a2 = b2) = c2
    generalize ask (a3 = b3) = c3
    cases c0 <;> cases c1 <;> cases c2 <;> cases c3 <;> rfl
theorem con34 (x y : tyM.I) (hx : tyM.okay x) (h : H) : Con E0 51 [tyM.elem x, tyM.elem y] h (.bool (ask (x = y))) h := by
  obtain ⟨a0, a1, a2, a3, a4⟩ := x
  obtain ⟨b0, b1, b2, b3, b4⟩ := y
  exact con34r a0 a1 a2 a3 a4 b0 b1 b2 b3 b4 (Nat.lt_of_le_of_lt hx.2.2.2.1.1 (by decide)) (Nat.lt_of_le_of_lt hx.2.2.2.2.1 (by decide)) h
def okMM (args : List AV) : Prop := ∃ L M : List tyM.I, args = [encL tyM L, encL tyM M, .clo 49 [] []] ∧ L.length < 1000000000000000 ∧ ∀ x, x ∈ L → tyM.okay x
noncomputable def clMM : Cl := ⟨48, okMM, eqRes⟩
theorem p10 (a0 a1 : ByteArray) (a2 : List tyC.I) (a3 : List tyF.I) (a4 : List tyM.I) (b0 b1 : ByteArray) (b2 : List tyC.I) (b3 : List tyF.I) (b4 : List tyM.I) : runV (XC 18 [10,17,24,31] [clLL 21 tyC, clLL 47 tyF, clMM]) (fun _ => none) Tryz.f18 (bodyOf Tryz.f18) [.agg [.str a0, .str a1, encL tyC a2, encL tyF a3, encL tyM a4], .agg [.str b0, .str b1, encL tyC b2, encL tyF b3, encL tyM b4]] =
  (T.br (decide (a0 = b0))
    (T.br (decide (a1 = b1))
      (T.br (askQ (clLL (21 : FuncId) tyC).2
  [AV.lst (5 : Nat) (List.map tyC.elem a2) Tl.open_, AV.lst (5 : Nat) (List.map tyC.elem b2) Tl.open_])
        (T.br (ask
  (AV.lst (5 : Nat) (List.map tyC.elem a2) Tl.open_ = AV.lst (5 : Nat) (List.map tyC.elem b2) Tl.open_))
          (T.br (askQ (clLL (47 : FuncId) tyF).2
  [AV.lst (2 : Nat) (List.map tyF.elem a3) Tl.open_, AV.lst (2 : Nat) (List.map tyF.elem b3) Tl.open_])
            (T.br (ask
  (AV.lst (2 : Nat) (List.map tyF.elem a3) Tl.open_ = AV.lst (2 : Nat) (List.map tyF.elem b3) Tl.open_))
              (T.br (askQ clMM.2
  [AV.lst (5 : Nat) (List.map tyM.elem a4) Tl.open_, AV.lst (5 : Nat) (List.map tyM.elem b4) Tl.open_,
    AV.clo (49 : Nat) [] []])
                (T.leaf (AV.bool
  (ask (AV.lst 5 (List.map tyM.elem a4) Tl.open_ = AV.lst 5 (List.map tyM.elem b4) Tl.open_))))
                T.fail)
              (T.leaf (AV.bool false)))
            T.fail)
          (T.br false
            (T.br (askQ clMM.2
  [AV.lst (5 : Nat) (List.map tyM.elem a4) Tl.open_, AV.lst (5 : Nat) (List.map tyM.elem b4) Tl.open_,
    AV.clo (49 : Nat) [] []])
              (T.leaf (AV.bool
  (ask (AV.lst 5 (List.map tyM.elem a4) Tl.open_ = AV.lst 5 (List.map tyM.elem b4) Tl.open_))))
              T.fail)
            (T.leaf (AV.bool false))))
        T.fail)
      (T.br false
        (T.br (askQ (clLL (47 : FuncId) tyF).2
  [AV.lst (2 : Nat) (List.map tyF.elem a3) Tl.open_, AV.lst (2 : Nat) (List.map tyF.elem b3) Tl.open_])
          (T.br (ask
  (AV.lst (2 : Nat) (List.map tyF.elem a3) Tl.open_ = AV.lst (2 : Nat) (List.map tyF.elem b3) Tl.open_))
            (T.br (askQ clMM.2
  [AV.lst (5 : Nat) (List.map tyM.elem a4) Tl.open_, AV.lst (5 : Nat) (List.map tyM.elem b4) Tl.open_,
    AV.clo (49 : Nat) [] []])
              (T.leaf (AV.bool
  (ask (AV.lst 5 (List.map tyM.elem a4) Tl.open_ = AV.lst 5 (List.map tyM.elem b4) Tl.open_))))
              T.fail)
            (T.leaf (AV.bool false)))
          T.fail)
        (T.br false
          (T.br (askQ clMM.2
  [AV.lst (5 : Nat) (List.map tyM.elem a4) Tl.open_, AV.lst (5 : Nat) (List.map tyM.elem b4) Tl.open_,
    AV.clo (49 : Nat) [] []])
            (T.leaf (AV.bool
  (ask (AV.lst 5 (List.map tyM.elem a4) Tl.open_ = AV.lst 5 (List.map tyM.elem b4) Tl.open_))))
            T.fail)
          (T.leaf (AV.bool false)))))
    (T.br false
      (T.br (askQ (clLL (21 : FuncId) tyC).2
  [AV.lst (5 : Nat) (List.map tyC.elem a2) Tl.open_, AV.lst (5 : Nat) (List.map tyC.elem b2) Tl.open_])
        (T.br (ask
  (AV.lst (5 : Nat) (List.map tyC.elem a2) Tl.open_ = AV.lst (5 : Nat) (List.map tyC.elem b2) Tl.open_))
          (T.br (askQ (clLL (47 : FuncId) tyF).2
  [AV.lst (2 : Nat) (List.map tyF.elem a3) Tl.open_, AV.lst (2 : Nat) (List.map tyF.elem b3) Tl.open_])
            (T.br (ask
  (AV.lst (2 : Nat) (List.map tyF.elem a3) Tl.open_ = AV.lst (2 : Nat) (List.map tyF.elem b3) Tl.open_))
              (T.br (askQ clMM.2
  [AV.lst (5 : Nat) (List.map tyM.elem a4) Tl.open_, AV.lst (5 : Nat) (List.map tyM.elem b4) Tl.open_,
    AV.clo (49 : Nat) [] []])
                (T.leaf (AV.bool
  (ask (AV.lst 5 (List.map tyM.elem a4) Tl.open_ = AV.lst 5 (List.map tyM.elem b4) Tl.open_))))
                T.fail)
              (T.leaf (AV.bool false)))
            T.fail)
          (T.br false
            (T.br (askQ clMM.2
  [AV.lst (5 : Nat) (List.map tyM.elem a4) Tl.open_, AV.lst (5 : Nat) (List.map tyM.elem b4) Tl.open_,
    AV.clo (49 : Nat) [] []])
              (T.leaf (AV.bool
  (ask (AV.lst 5 (List.map tyM.elem a4) Tl.open_ = AV.lst 5 (List.map tyM.elem b4) Tl.open_))))
              T.fail)
            (T.leaf (AV.bool false))))
        T.fail)
      (T.br false
        (T.br (askQ (clLL (47 : FuncId) tyF).2
  [AV.lst (2 : Nat) (List.map tyF.elem a3) Tl.open_, AV.lst (2 : Nat) (List.map tyF.elem b3) Tl.open_])
          (T.br (ask
  (AV.lst (2 : Nat) (List.map tyF.elem a3) Tl.open_ = AV.lst (2 : Nat) (List.map tyF.elem b3) Tl.open_))
            (T.br (askQ clMM.2
  [AV.lst (5 : Nat) (List.map tyM.elem a4) Tl.open_, AV.lst (5 : Nat) (List.map tyM.elem b4) Tl.open_,
    AV.clo (49 : Nat) [] []])
              (T.leaf (AV.bool
  (ask (AV.lst 5 (List.map tyM.elem a4) Tl.open_ = AV.lst 5 (List.map tyM.elem b4) Tl.open_))))
              T.fail)
            (T.leaf (AV.bool false)))
          T.fail)
        (T.br false
          (T.br (askQ clMM.2
  [AV.lst (5 : Nat) (List.map tyM.elem a4) Tl.open_, AV.lst (5 : Nat) (List.map tyM.elem b4) Tl.open_,
    AV.clo (49 : Nat) [] []])
            (T.leaf (AV.bool
  (ask (AV.lst 5 (List.map tyM.elem a4) Tl.open_ = AV.lst 5 (List.map tyM.elem b4) Tl.open_))))
            T.fail)
          (T.leaf (AV.bool false)))))) := by kernel_rfl
theorem sameK (a0 a1 : ByteArray) (a2 : List tyC.I) (a3 : List tyF.I) (a4 : List tyM.I) (b0 b1 : ByteArray) (b2 : List tyC.I) (b3 : List tyF.I) (b4 : List tyM.I) :
    ask (((a0, a1, a2, a3, a4) : ByteArray × ByteArray × List tyC.I × List tyF.I × List tyM.I) = (b0, b1, b2, b3, b4)) = (decide (a0 = b0) && (decide (a1 = b1) && (ask (a2 = b2) && (ask (a3 = b3) && ask (a4 = b4))))) := by
  rw [ask_pair, ask_pair, ask_pair, ask_pair, ask_dec, ask_dec]
theorem clMM_con : ∀ args, clMM.ok args → ∀ h, Con E0 clMM.f args h (clMM.res args) h := by
  rintro args ⟨L, M, rfl, hl, hok⟩ h
  have : clMM.res [encL tyM L, encL tyM M, .clo 49 [] []] = .bool (ask (L = M)) := congrArg AV.bool (ask_LL tyM L M)
  rw [this]
  exact con29 L M hl hok h
theorem calls10 {X : SX} (hx : X.call = callsBy [clLL 21 tyC, clLL 47 tyF, clMM]) (hE : X.E = E0) : CallOK X.E X.calls := callsBy_ok hx fun c hc => by
  rw [hE]
  rcases List.mem_cons.1 hc with rfl | hc
  · exact clLL_con con27
  rcases List.mem_cons.1 hc with rfl | hc
  · exact clLL_con con28
  · obtain rfl := List.mem_singleton.1 hc
    exact clMM_con
theorem con10r (a0 a1 : ByteArray) (a2 : List tyC.I) (a3 : List tyF.I) (a4 : List tyM.I) (b0 b1 : ByteArray) (b2 : List tyC.I) (b3 : List tyF.I) (b4 : List tyM.I) (l2 : a2.length < 1000000000000000) (l3 : a3.length < 1000000000000000) (l4 : a4.length < 1000000000000000) (hok : ∀ x, x ∈ a4 → tyM.okay x) (h : H) :
    Con E0 18 [tyK.elem (a0, a1, a2, a3, a4), tyK.elem (b0, b1, b2, b3, b4)] h (.bool (ask (((a0, a1, a2, a3, a4) : ByteArray × ByteArray × List tyC.I × List tyF.I × List tyM.I) = (b0, b1, b2, b3, b4)))) h := by
  have ht := congrArg T.run (p10 a0 a1 a2 a3 a4 b0 b1 b2 b3 b4)
  have q2 : askQ (clLL 21 tyC).2 [AV.lst 5 (List.map tyC.elem a2) Tl.open_, AV.lst 5 (List.map tyC.elem b2) Tl.open_] = true := ask_true ⟨a2, b2, rfl, l2⟩
  have q3 : askQ (clLL 47 tyF).2 [AV.lst 2 (List.map tyF.elem a3) Tl.open_, AV.lst 2 (List.map tyF.elem b3) Tl.open_] = true := ask_true ⟨a3, b3, rfl, l3⟩
  have q4 : askQ clMM.2 [AV.lst 5 (List.map tyM.elem a4) Tl.open_, AV.lst 5 (List.map tyM.elem b4) Tl.open_, AV.clo 49 [] []] = true := ask_true ⟨a4, b4, rfl, l4, hok⟩
  have e2 : ask (AV.lst 5 (List.map tyC.elem a2) Tl.open_ = AV.lst 5 (List.map tyC.elem b2) Tl.open_) = ask (a2 = b2) := ask_LL tyC a2 b2
  have e3 : ask (AV.lst 2 (List.map tyF.elem a3) Tl.open_ = AV.lst 2 (List.map tyF.elem b3) Tl.open_) = ask (a3 = b3) := ask_LL tyF a3 b3
  have e4 : ask (AV.lst 5 (List.map tyM.elem a4) Tl.open_ = AV.lst 5 (List.map tyM.elem b4) Tl.open_) = ask (a4 = b4) := ask_LL tyM a4 b4
  rw [q2, q3, q4, e2, e3, e4] at ht
  have hr : (runV (XC 18 [10,17,24,31] [clLL 21 tyC, clLL 47 tyF, clMM]) (fun _ => none) Tryz.f18 (bodyOf Tryz.f18) [tyK.elem (a0, a1, a2, a3, a4), tyK.elem (b0, b1, b2, b3, b4)]).run = .ok (.bool (ask (((a0, a1, a2, a3, a4) : ByteArray × ByteArray × List tyC.I × List tyF.I × List tyM.I) = (b0, b1, b2, b3, b4)))) := by
    refine ht.trans ?_
    rw [sameK]
    generalize decide (a0 = b0) = c0
    generalize decide (a1 = b1) = c1
    generalize ask (a2 = b2) = c2
    generalize ask (a3 = b3) = c3
    generalize ask (a4 = b4) = c4
    cases c0 <;> cases c1 <;> cases c2 <;> cases c3 <;> cases c4 <;> rfl
  exact Con.pureV (X := XC 18 [10,17,24,31] [clLL 21 tyC, clLL 47 tyF, clMM]) g0 noG0 (calls10 rfl rfl) (fn := Tryz.f18) Tryz.func18 (c := bodyOf Tryz.f18) rfl rfl (args := [tyK.elem (a0, a1, a2, a3, a4), tyK.elem (b0, b1, b2, b3, b4)]) KOK.none (noRefs2 tyK _ _) hr (Le.refl _) rfl h
theorem con10 (x y : tyK.I) (hx : tyK.okay x) (h : H) : Con E0 18 [tyK.elem x, tyK.elem y] h (.bool (ask (x = y))) h := by
  obtain ⟨a0, a1, a2, a3, a4⟩ := x
  obtain ⟨b0, b1, b2, b3, b4⟩ := y
  exact con10r a0 a1 a2 a3 a4 b0 b1 b2 b3 b4 (Nat.lt_of_le_of_lt hx.2.2.1.1 (by decide)) (Nat.lt_of_le_of_lt hx.2.2.2.1.1 (by decide)) (Nat.lt_of_le_of_lt hx.2.2.2.2.1 (by decide)) hx.2.2.2.2.2 h
def st11a (j : Nat) : List (Nat × AV) := [(2, .ptr 0 0), (3, .ptr 1 0), (5, .int .i64 j)]
def st11b (j : Nat) : List (Nat × AV) := [(2, .ptr 0 0), (3, .ptr 1 0), (6, .int .i64 j)]
theorem p11a (a0 a1 : ByteArray) (a2 : List tyC.I) (a3 : List tyF.I) (a4 : List tyM.I) (b0 b1 : ByteArray) (b2 : List tyC.I) (b3 : List tyF.I) (b4 : List tyM.I) (i : Int) : obsK (XC 25 [12,19,27,36,44,49,62,67,81] [clLL 26 tyC, clEE 51 tyM]) (fun _ => none) 82 (sub (bodyOf Tryz.f25) [1,1,0,1,0,0]) [1,1,0,1,0,0] (frm [(2, .ptr 0 0), (3, .ptr 1 0), (5, .int .i64 i)]) [.var [.str a0, .str a1, encL tyC a2, encL tyF a3, encL tyM a4], .var [.str b0, .str b1, encL tyC b2, encL tyF b3, encL tyM b4]] [2,3,4,5] =
  (T.br (decide (i < (↑(List.map tyF.elem a3).length : Int)))
    (T.br (decide ((0 : Int) ≤ i) && decide (i < (↑(List.map tyF.elem a3).length : Int)) &&
  fitsC Tryz.prog (86 : Nat) ((List.map tyF.elem a3).getD i.toNat undef))
      (T.br (decide ((0 : Int) ≤ i) && decide (i < (↑(List.map tyF.elem b3).length : Int)) &&
  fitsC Tryz.prog (86 : Nat) ((List.map tyF.elem b3).getD i.toNat undef))
        (T.br (!((((List.map tyF.elem a3).getD i.toNat undef).cells.getD (0 : Nat) undef).toS ==
      (((List.map tyF.elem b3).getD i.toNat undef).cells.getD (0 : Nat) undef).toS &&
    ((((List.map tyF.elem a3).getD i.toNat undef).cells.getD (1 : Nat) undef).toS ==
        (((List.map tyF.elem b3).getD i.toNat undef).cells.getD (1 : Nat) undef).toS &&
      true)))
          (T.leaf ((X.ret, [AV.ptr 0 0, AV.ptr 1 0, AV.bool false, AV.int IntKind.i64 i],
  [Blk.var
      [AV.str a0, AV.str a1, AV.lst 5 (List.map tyC.elem a2) Tl.open_, AV.lst 2 (List.map tyF.elem a3) Tl.open_,
        AV.lst 5 (List.map tyM.elem a4) Tl.open_],
    Blk.var
      [AV.str b0, AV.str b1, AV.lst 5 (List.map tyC.elem b2) Tl.open_, AV.lst 2 (List.map tyF.elem b3) Tl.open_,
        AV.lst 5 (List.map tyM.elem b4) Tl.open_]])))
          (T.leaf ((X.normal, [AV.ptr 0 0, AV.ptr 1 0, AV.fsl 0 [], AV.int IntKind.i64 (IntKind.i64.wrap (i + 1))],
  [Blk.var
      [AV.str a0, AV.str a1, AV.lst 5 (List.map tyC.elem a2) Tl.open_, AV.lst 2 (List.map tyF.elem a3) Tl.open_,
        AV.lst 5 (List.map tyM.elem a4) Tl.open_],
    Blk.var
      [AV.str b0, AV.str b1, AV.lst 5 (List.map tyC.elem b2) Tl.open_, AV.lst 2 (List.map tyF.elem b3) Tl.open_,
        AV.lst 5 (List.map tyM.elem b4) Tl.open_]]))))
        T.fail)
      T.fail)
    (T.leaf ((X.exit 0, [AV.ptr 0 0, AV.ptr 1 0, AV.fsl 0 [], AV.int IntKind.i64 i],
  [Blk.var
      [AV.str a0, AV.str a1, AV.lst 5 (List.map tyC.elem a2) Tl.open_, AV.lst 2 (List.map tyF.elem a3) Tl.open_,
        AV.lst 5 (List.map tyM.elem a4) Tl.open_],
    Blk.var
      [AV.str b0, AV.str b1, AV.lst 5 (List.map tyC.elem b2) Tl.open_, AV.lst 2 (List.map tyF.elem b3) Tl.open_,
        AV.lst 5 (List.map tyM.elem b4) Tl.open_]])))) := by kernel_rfl
theorem p11b (a0 a1 : ByteArray) (a2 : List tyC.I) (a3 : List tyF.I) (a4 : List tyM.I) (b0 b1 : ByteArray) (b2 : List tyC.I) (b3 : List tyF.I) (b4 : List tyM.I) (i : Int) : obsK (XC 25 [12,19,27,36,44,49,62,67,81] [clLL 26 tyC, clEE 51 tyM]) (fun _ => none) 82 (sub (bodyOf Tryz.f25) [1,1,1,0,1,0,0]) [1,1,1,0,1,0,0] (frm [(2, .ptr 0 0), (3, .ptr 1 0), (6, .int .i64 i)]) [.var [.str a0, .str a1, encL tyC a2, encL tyF a3, encL tyM a4], .var [.str b0, .str b1, encL tyC b2, encL tyF b3, encL tyM b4]] [2,3,4,6] =
  (T.br (decide (i < (↑(List.map tyM.elem a4).length : Int)))
    (T.br (decide ((0 : Int) ≤ i) && decide (i < (↑(List.map tyM.elem a4).length : Int)) &&
  fitsC Tryz.prog (41 : Nat) ((List.map tyM.elem a4).getD i.toNat undef))
      (T.br (decide ((0 : Int) ≤ i) && decide (i < (↑(List.map tyM.elem b4).length : Int)) &&
  fitsC Tryz.prog (41 : Nat) ((List.map tyM.elem b4).getD i.toNat undef))
        (T.br (askQ (clEE (51 : FuncId) tyM).2
  [AV.agg
      [AV.str (((List.map tyM.elem a4).getD i.toNat undef).cells.getD (0 : Nat) undef).toS,
        AV.str (((List.map tyM.elem a4).getD i.toNat undef).cells.getD (1 : Nat) undef).toS,
        AV.int IntKind.i64 (((List.map tyM.elem a4).getD i.toNat undef).cells.getD (2 : Nat) undef).toI,
        AV.lst (2 : Nat) (((List.map tyM.elem a4).getD i.toNat undef).cells.getD (3 : Nat) undef).toL Tl.open_,
        AV.lst (4 : Nat) (((List.map tyM.elem a4).getD i.toNat undef).cells.getD (4 : Nat) undef).toL Tl.open_],
    AV.agg
      [AV.str (((List.map tyM.elem b4).getD i.toNat undef).cells.getD (0 : Nat) undef).toS,
        AV.str (((List.map tyM.elem b4).getD i.toNat undef).cells.getD (1 : Nat) undef).toS,
        AV.int IntKind.i64 (((List.map tyM.elem b4).getD i.toNat undef).cells.getD (2 : Nat) undef).toI,
        AV.lst (2 : Nat) (((List.map tyM.elem b4).getD i.toNat undef).cells.getD (3 : Nat) undef).toL Tl.open_,
        AV.lst (4 : Nat) (((List.map tyM.elem b4).getD i.toNat undef).cells.getD (4 : Nat) undef).toL Tl.open_]])
          (T.br (!ask
    (AV.agg
        [AV.str (((List.map tyM.elem a4).getD i.toNat undef).cells.getD (0 : Nat) undef).toS,
          AV.str (((List.map tyM.elem a4).getD i.toNat undef).cells.getD (1 : Nat) undef).toS,
          AV.int IntKind.i64 (((List.map tyM.elem a4).getD i.toNat undef).cells.getD (2 : Nat) undef).toI,
          AV.lst (2 : Nat) (((List.map tyM.elem a4).getD i.toNat undef).cells.getD (3 : Nat) undef).toL Tl.open_,
          AV.lst (4 : Nat) (((List.map tyM.elem a4).getD i.toNat undef).cells.getD (4 : Nat) undef).toL Tl.open_] =
      AV.agg
        [AV.str (((List.map tyM.elem b4).getD i.toNat undef).cells.getD (0 : Nat) undef).toS,
          AV.str (((List.map tyM.elem b4).getD i.toNat undef).cells.getD (1 : Nat) undef).toS,
          AV.int IntKind.i64 (((List.map tyM.elem b4).getD i.toNat undef).cells.getD (2 : Nat) undef).toI,
          AV.lst (2 : Nat) (((List.map tyM.elem b4).getD i.toNat undef).cells.getD (3 : Nat) undef).toL Tl.open_,
          AV.lst (4 : Nat) (((List.map tyM.elem b4).getD i.toNat undef).cells.getD (4 : Nat) undef).toL Tl.open_]))
            (T.leaf ((X.ret, [AV.ptr 0 0, AV.ptr 1 0, AV.bool false, AV.int IntKind.i64 i],
  [Blk.var
      [AV.str a0, AV.str a1, AV.lst 5 (List.map tyC.elem a2) Tl.open_, AV.lst 2 (List.map tyF.elem a3) Tl.open_,
        AV.lst 5 (List.map tyM.elem a4) Tl.open_],
    Blk.var
      [AV.str b0, AV.str b1, AV.lst 5 (List.map tyC.elem b2) Tl.open_, AV.lst 2 (List.map tyF.elem b3) Tl.open_,
        AV.lst 5 (List.map tyM.elem b4) Tl.open_]])))
            (T.leaf ((X.normal, [AV.ptr 0 0, AV.ptr 1 0, AV.fsl 0 [], AV.int IntKind.i64 (IntKind.i64.wrap (i + 1))],
  [Blk.var
      [AV.str a0, AV.str a1, AV.lst 5 (List.map tyC.elem a2) Tl.open_, AV.lst 2 (List.map tyF.elem a3) Tl.open_,
        AV.lst 5 (List.map tyM.elem a4) Tl.open_],
    Blk.var
      [AV.str b0, AV.str b1, AV.lst 5 (List.map tyC.elem b2) Tl.open_, AV.lst 2 (List.map tyF.elem b3) Tl.open_,
        AV.lst 5 (List.map tyM.elem b4) Tl.open_]]))))
          T.fail)
        T.fail)
      T.fail)
    (T.leaf ((X.exit 2, [AV.ptr 0 0, AV.ptr 1 0, AV.fsl 0 [], AV.int IntKind.i64 i],
  [Blk.var
      [AV.str a0, AV.str a1, AV.lst 5 (List.map tyC.elem a2) Tl.open_, AV.lst 2 (List.map tyF.elem a3) Tl.open_,
        AV.lst 5 (List.map tyM.elem a4) Tl.open_],
    Blk.var
      [AV.str b0, AV.str b1, AV.lst 5 (List.map tyC.elem b2) Tl.open_, AV.lst 2 (List.map tyF.elem b3) Tl.open_,
        AV.lst 5 (List.map tyM.elem b4) Tl.open_]])))) := by kernel_rfl
theorem p11nn (a0 a1 : ByteArray) (a2 : List tyC.I) (a3 : List tyF.I) (a4 : List tyM.I) (b0 b1 : ByteArray) (b2 : List tyC.I) (b3 : List tyF.I) (b4 : List tyM.I) : runV (XC 25 [12,19,27,36,44,49,62,67,81] [clLL 26 tyC, clEE 51 tyM]) (kTwo (kAt [1,1,0,1] (st11a 0) [.var [.str a0, .str a1, encL tyC a2, encL tyF a3, encL tyM a4], .var [.str b0, .str b1, encL tyC b2, encL tyF b3, encL tyM b4]] .normal (st11a a3.length) [.var [.str a0, .str a1, encL tyC a2, encL tyF a3, encL tyM a4], .var [.str b0, .str b1, encL tyC b2, encL tyF b3, encL tyM b4]]) (kAt [1,1,1,0,1] (st11b 0) [.var [.str a0, .str a1, encL tyC a2, encL tyF a3, encL tyM a4], .var [.str b0, .str b1, encL tyC b2, encL tyF b3, encL tyM b4]] .normal (st11b a4.length) [.var [.str a0, .str a1, encL tyC a2, encL tyF a3, encL tyM a4], .var [.str b0, .str b1, encL tyC b2, encL tyF b3, encL tyM b4]])) Tryz.f25 (bodyOf Tryz.f25) [.agg [.str a0, .str a1, encL tyC a2, encL tyF a3, encL tyM a4], .agg [.str b0, .str b1, encL tyC b2, encL tyF b3, encL tyM b4]] =
  (T.br (!decide (a0 = b0))
    (T.br true
      (T.br true
        (T.br true
          (T.br true
            (T.leaf (AV.bool false))
            (T.br (askS [AV.ptr (0 : Nat) (0 : Nat), AV.ptr (1 : Nat) (0 : Nat), AV.int IntKind.i64 (0 : Int)]
  [AV.ptr (0 : Nat) (0 : Nat), AV.ptr (1 : Nat) (0 : Nat), AV.int IntKind.i64 (↑(0 : Nat) : Int)]
  [Blk.var
      [AV.str a0, AV.str a1, AV.lst (5 : Nat) (List.map tyC.elem a2) Tl.open_,
        AV.lst (2 : Nat) (List.map tyF.elem a3) Tl.open_, AV.lst (5 : Nat) (List.map tyM.elem a4) Tl.open_],
    Blk.var
      [AV.str b0, AV.str b1, AV.lst (5 : Nat) (List.map tyC.elem b2) Tl.open_,
        AV.lst (2 : Nat) (List.map tyF.elem b3) Tl.open_, AV.lst (5 : Nat) (List.map tyM.elem b4) Tl.open_]]
  [Blk.var
      [AV.str a0, AV.str a1, AV.lst (5 : Nat) (List.map tyC.elem a2) Tl.open_,
        AV.lst (2 : Nat) (List.map tyF.elem a3) Tl.open_, AV.lst (5 : Nat) (List.map tyM.elem a4) Tl.open_],
    Blk.var
      [AV.str b0, AV.str b1, AV.lst (5 : Nat) (List.map tyC.elem b2) Tl.open_,
        AV.lst (2 : Nat) (List.map tyF.elem b3) Tl.open_, AV.lst (5 : Nat) (List.map tyM.elem b4) Tl.open_]])
              (T.br (askS [AV.ptr (0 : Nat) (0 : Nat), AV.ptr (1 : Nat) (0 : Nat), AV.int IntKind.i64 (0 : Int)]
  [AV.ptr (0 : Nat) (0 : Nat), AV.ptr (1 : Nat) (0 : Nat), AV.int IntKind.i64 (↑(0 : Nat) : Int)]
  [Blk.var
      [AV.str a0, AV.str a1, AV.lst (5 : Nat) (List.map tyC.elem a2) Tl.open_,
        AV.lst (2 : Nat) (List.map tyF.elem a3) Tl.open_, AV.lst (5 : Nat) (List.map tyM.elem a4) Tl.open_],
    Blk.var
      [AV.str b0, AV.str b1, AV.lst (5 : Nat) (List.map tyC.elem b2) Tl.open_,
        AV.lst (2 : Nat) (List.map tyF.elem b3) Tl.open_, AV.lst (5 : Nat) (List.map tyM.elem b4) Tl.open_]]
  [Blk.var
      [AV.str a0, AV.str a1, AV.lst (5 : Nat) (List.map tyC.elem a2) Tl.open_,
        AV.lst (2 : Nat) (List.map tyF.elem a3) Tl.open_, AV.lst (5 : Nat) (List.map tyM.elem a4) Tl.open_],
    Blk.var
      [AV.str b0, AV.str b1, AV.lst (5 : Nat) (List.map tyC.elem b2) Tl.open_,
        AV.lst (2 : Nat) (List.map tyF.elem b3) Tl.open_, AV.lst (5 : Nat) (List.map tyM.elem b4) Tl.open_]])
                (T.leaf (AV.bool true))
                T.fail)
              T.fail))
          (T.br (!decide ((↑(List.map tyM.elem a4).length : Int) = (↑(List.map tyM.elem b4).length : Int)))
            (T.leaf (AV.bool false))
            (T.br (askS [AV.ptr (0 : Nat) (0 : Nat), AV.ptr (1 : Nat) (0 : Nat), AV.int IntKind.i64 (0 : Int)]
  [AV.ptr (0 : Nat) (0 : Nat), AV.ptr (1 : Nat) (0 : Nat), AV.int IntKind.i64 (↑(0 : Nat) : Int)]
  [Blk.var
      [AV.str a0, AV.str a1, AV.lst (5 : Nat) (List.map tyC.elem a2) Tl.open_,
        AV.lst (2 : Nat) (List.map tyF.elem a3) Tl.open_, AV.lst (5 : Nat) (List.map tyM.elem a4) Tl.open_],
    Blk.var
      [AV.str b0, AV.str b1, AV.lst (5 : Nat) (List.map tyC.elem b2) Tl.open_,
        AV.lst (2 : Nat) (List.map tyF.elem b3) Tl.open_, AV.lst (5 : Nat) (List.map tyM.elem b4) Tl.open_]]
  [Blk.var
      [AV.str a0, AV.str a1, AV.lst (5 : Nat) (List.map tyC.elem a2) Tl.open_,
        AV.lst (2 : Nat) (List.map tyF.elem a3) Tl.open_, AV.lst (5 : Nat) (List.map tyM.elem a4) Tl.open_],
    Blk.var
      [AV.str b0, AV.str b1, AV.lst (5 : Nat) (List.map tyC.elem b2) Tl.open_,
        AV.lst (2 : Nat) (List.map tyF.elem b3) Tl.open_, AV.lst (5 : Nat) (List.map tyM.elem b4) Tl.open_]])
              (T.br (askS [AV.ptr (0 : Nat) (0 : Nat), AV.ptr (1 : Nat) (0 : Nat), AV.int IntKind.i64 (0 : Int)]
  [AV.ptr (0 : Nat) (0 : Nat), AV.ptr (1 : Nat) (0 : Nat), AV.int IntKind.i64 (↑(0 : Nat) : Int)]
  [Blk.var
      [AV.str a0, AV.str a1, AV.lst (5 : Nat) (List.map tyC.elem a2) Tl.open_,
        AV.lst (2 : Nat) (List.map tyF.elem a3) Tl.open_, AV.lst (5 : Nat) (List.map tyM.elem a4) Tl.open_],
    Blk.var
      [AV.str b0, AV.str b1, AV.lst (5 : Nat) (List.map tyC.elem b2) Tl.open_,
        AV.lst (2 : Nat) (List.map tyF.elem b3) Tl.open_, AV.lst (5 : Nat) (List.map tyM.elem b4) Tl.open_]]
  [Blk.var
      [AV.str a0, AV.str a1, AV.lst (5 : Nat) (List.map tyC.elem a2) Tl.open_,
        AV.lst (2 : Nat) (List.map tyF.elem a3) Tl.open_, AV.lst (5 : Nat) (List.map tyM.elem a4) Tl.open_],
    Blk.var
      [AV.str b0, AV.str b1, AV.lst (5 : Nat) (List.map tyC.elem b2) Tl.open_,
        AV.lst (2 : Nat) (List.map tyF.elem b3) Tl.open_, AV.lst (5 : Nat) (List.map tyM.elem b4) Tl.open_]])
                (T.leaf (AV.bool true))
                T.fail)
              T.fail)))
        (T.br (!decide ((↑(List.map tyF.elem a3).length : Int) = (↑(List.map tyF.elem b3).length : Int)))
          (T.br true
            (T.leaf (AV.bool false))
            (T.br (askS [AV.ptr (0 : Nat) (0 : Nat), AV.ptr (1 : Nat) (0 : Nat), AV.int IntKind.i64 (0 : Int)]
  [AV.ptr (0 : Nat) (0 : Nat), AV.ptr (1 : Nat) (0 : Nat), AV.int IntKind.i64 (↑(0 : Nat) : Int)]
  [Blk.var
      [AV.str a0, AV.str a1, AV.lst (5 : Nat) (List.map tyC.elem a2) Tl.open_,
        AV.lst (2 : Nat) (List.map tyF.elem a3) Tl.open_, AV.lst (5 : Nat) (List.map tyM.elem a4) Tl.open_],
    Blk.var
      [AV.str b0, AV.str b1, AV.lst (5 : Nat) (List.map tyC.elem b2) Tl.open_,
        AV.lst (2 : Nat) (List.map tyF.elem b3) Tl.open_, AV.lst (5 : Nat) (List.map tyM.elem b4) Tl.open_]]
  [Blk.var
      [AV.str a0, AV.str a1, AV.lst (5 : Nat) (List.map tyC.elem a2) Tl.open_,
        AV.lst (2 : Nat) (List.map tyF.elem a3) Tl.open_, AV.lst (5 : Nat) (List.map tyM.elem a4) Tl.open_],
    Blk.var
      [AV.str b0, AV.str b1, AV.lst (5 : Nat) (List.map tyC.elem b2) Tl.open_,
        AV.lst (2 : Nat) (List.map tyF.elem b3) Tl.open_, AV.lst (5 : Nat) (List.map tyM.elem b4) Tl.open_]])
              (T.br (askS [AV.ptr (0 : Nat) (0 : Nat), AV.ptr (1 : Nat) (0 : Nat), AV.int IntKind.i64 (0 : Int)]
  [AV.ptr (0 : Nat) (0 : Nat), AV.ptr (1 : Nat) (0 : Nat), AV.int IntKind.i64 (↑(0 : Nat) : Int)]
  [Blk.var
      [AV.str a0, AV.str a1, AV.lst (5 : Nat) (List.map tyC.elem a2) Tl.open_,
        AV.lst (2 : Nat) (List.map tyF.elem a3) Tl.open_, AV.lst (5 : Nat) (List.map tyM.elem a4) Tl.open_],
    Blk.var
      [AV.str b0, AV.str b1, AV.lst (5 : Nat) (List.map tyC.elem b2) Tl.open_,
        AV.lst (2 : Nat) (List.map tyF.elem b3) Tl.open_, AV.lst (5 : Nat) (List.map tyM.elem b4) Tl.open_]]
  [Blk.var
      [AV.str a0, AV.str a1, AV.lst (5 : Nat) (List.map tyC.elem a2) Tl.open_,
        AV.lst (2 : Nat) (List.map tyF.elem a3) Tl.open_, AV.lst (5 : Nat) (List.map tyM.elem a4) Tl.open_],
    Blk.var
      [AV.str b0, AV.str b1, AV.lst (5 : Nat) (List.map tyC.elem b2) Tl.open_,
        AV.lst (2 : Nat) (List.map tyF.elem b3) Tl.open_, AV.lst (5 : Nat) (List.map tyM.elem b4) Tl.open_]])
                (T.leaf (AV.bool true))
                T.fail)
              T.fail))
          (T.br (!decide ((↑(List.map tyM.elem a4).length : Int) = (↑(List.map tyM.elem b4).length : Int)))
            (T.leaf (AV.bool false))
            (T.br (askS [AV.ptr (0 : Nat) (0 : Nat), AV.ptr (1 : Nat) (0 : Nat), AV.int IntKind.i64 (0 : Int)]
  [AV.ptr (0 : Nat) (0 : Nat), AV.ptr (1 : Nat) (0 : Nat), AV.int IntKind.i64 (↑(0 : Nat) : Int)]
  [Blk.var
      [AV.str a0, AV.str a1, AV.lst (5 : Nat) (List.map tyC.elem a2) Tl.open_,
        AV.lst (2 : Nat) (List.map tyF.elem a3) Tl.open_, AV.lst (5 : Nat) (List.map tyM.elem a4) Tl.open_],
    Blk.var
      [AV.str b0, AV.str b1, AV.lst (5 : Nat) (List.map tyC.elem b2) Tl.open_,
        AV.lst (2 : Nat) (List.map tyF.elem b3) Tl.open_, AV.lst (5 : Nat) (List.map tyM.elem b4) Tl.open_]]
  [Blk.var
      [AV.str a0, AV.str a1, AV.lst (5 : Nat) (List.map tyC.elem a2) Tl.open_,
        AV.lst (2 : Nat) (List.map tyF.elem a3) Tl.open_, AV.lst (5 : Nat) (List.map tyM.elem a4) Tl.open_],
    Blk.var
      [AV.str b0, AV.str b1, AV.lst (5 : Nat) (List.map tyC.elem b2) Tl.open_,
        AV.lst (2 : Nat) (List.map tyF.elem b3) Tl.open_, AV.lst (5 : Nat) (List.map tyM.elem b4) Tl.open_]])
              (T.br (askS [AV.ptr (0 : Nat) (0 : Nat), AV.ptr (1 : Nat) (0 : Nat), AV.int IntKind.i64 (0 : Int)]
  [AV.ptr (0 : Nat) (0 : Nat), AV.ptr (1 : Nat) (0 : Nat), AV.int IntKind.i64 (↑(0 : Nat) : Int)]
  [Blk.var
      [AV.str a0, AV.str a1, AV.lst (5 : Nat) (List.map tyC.elem a2) Tl.open_,
        AV.lst (2 : Nat) (List.map tyF.elem a3) Tl.open_, AV.lst (5 : Nat) (List.map tyM.elem a4) Tl.open_],
    Blk.var
      [AV.str b0, AV.str b1, AV.lst (5 : Nat) (List.map tyC.elem b2) Tl.open_,
        AV.lst (2 : Nat) (List.map tyF.elem b3) Tl.open_, AV.lst (5 : Nat) (List.map tyM.elem b4) Tl.open_]]
  [Blk.var
      [AV.str a0, AV.str a1, AV.lst (5 : Nat) (List.map tyC.elem a2) Tl.open_,
        AV.lst (2 : Nat) (List.map tyF.elem a3) Tl.open_, AV.lst (5 : Nat) (List.map tyM.elem a4) Tl.open_],
    Blk.var
      [AV.str b0, AV.str b1, AV.lst (5 : Nat) (List.map tyC.elem b2) Tl.open_,
        AV.lst (2 : Nat) (List.map tyF.elem b3) Tl.open_, AV.lst (5 : Nat) (List.map tyM.elem b4) Tl.open_]])
                (T.leaf (AV.bool true))
                T.fail)
              T.fail))))
      (T.br (askQ (clLL (26 : FuncId) tyC).2
  [AV.lst (5 : Nat) (List.map tyC.elem a2) Tl.open_, AV.lst (5 : Nat) (List.map tyC.elem b2) Tl.open_])
        (T.br (!ask
    (AV.lst (5 : Nat) (List.map tyC.elem a2) Tl.open_ = AV.lst (5 : Nat) (List.map tyC.elem b2) Tl.open_))
          (T.br true
            (T.br true
              (T.leaf (AV.bool false))
              (T.br (askS [AV.ptr (0 : Nat) (0 : Nat), AV.ptr (1 : Nat) (0 : Nat), AV.int IntKind.i64 (0 : Int)]
  [AV.ptr (0 : Nat) (0 : Nat), AV.ptr (1 : Nat) (0 : Nat), AV.int IntKind.i64 (↑(0 : Nat) : Int)]
  [Blk.var
      [AV.str a0, AV.str a1, AV.lst (5 : Nat) (List.map tyC.elem a2) Tl.open_,
        AV.lst (2 : Nat) (List.map tyF.elem a3) Tl.open_, AV.lst (5 : Nat) (List.map tyM.elem a4) Tl.open_],
    Blk.var
      [AV.str b0, AV.str b1, AV.lst (5 : Nat) (List.map tyC.elem b2) Tl.open_,
        AV.lst (2 : Nat) (List.map tyF.elem b3) Tl.open_, AV.lst (5 : Nat) (List.map tyM.elem b4) Tl.open_]]
  [Blk.var
      [AV.str a0, AV.str a1, AV.lst (5 : Nat) (List.map tyC.elem a2) Tl.open_,
        AV.lst (2 : Nat) (List.map tyF.elem a3) Tl.open_, AV.lst (5 : Nat) (List.map tyM.elem a4) Tl.open_],
    Blk.var
      [AV.str b0, AV.str b1, AV.lst (5 : Nat) (List.map tyC.elem b2) Tl.open_,
        AV.lst (2 : Nat) (List.map tyF.elem b3) Tl.open_, AV.lst (5 : Nat) (List.map tyM.elem b4) Tl.open_]])
                (T.br (askS [AV.ptr (0 : Nat) (0 : Nat), AV.ptr (1 : Nat) (0 : Nat), AV.int IntKind.i64 (0 : Int)]
  [AV.ptr (0 : Nat) (0 : Nat), AV.ptr (1 : Nat) (0 : Nat), AV.int IntKind.i64 (↑(0 : Nat) : Int)]
  [Blk.var
      [AV.str a0, AV.str a1, AV.lst (5 : Nat) (List.map tyC.elem a2) Tl.open_,
        AV.lst (2 : Nat) (List.map tyF.elem a3) Tl.open_, AV.lst (5 : Nat) (List.map tyM.elem a4) Tl.open_],
    Blk.var
      [AV.str b0, AV.str b1, AV.lst (5 : Nat) (List.map tyC.elem b2) Tl.open_,
        AV.lst (2 : Nat) (List.map tyF.elem b3) Tl.open_, AV.lst (5 : Nat) (List.map tyM.elem b4) Tl.open_]]
  [Blk.var
      [AV.str a0, AV.str a1, AV.lst (5 : Nat) (List.map tyC.elem a2) Tl.open_,
        AV.lst (2 : Nat) (List.map tyF.elem a3) Tl.open_, AV.lst (5 : Nat) (List.map tyM.elem a4) Tl.open_],
    Blk.var
      [AV.str b0, AV.str b1, AV.lst (5 : Nat) (List.map tyC.elem b2) Tl.open_,
        AV.lst (2 : Nat) (List.map tyF.elem b3) Tl.open_, AV.lst (5 : Nat) (List.map tyM.elem b4) Tl.open_]])
                  (T.leaf (AV.bool true))
                  T.fail)
                T.fail))
            (T.br (!decide ((↑(List.map tyM.elem a4).length : Int) = (↑(List.map tyM.elem b4).length : Int)))
              (T.leaf (AV.bool false))
              (T.br (askS [AV.ptr (0 : Nat) (0 : Nat), AV.ptr (1 : Nat) (0 : Nat), AV.int IntKind.i64 (0 : Int)]
  [AV.ptr (0 : Nat) (0 : Nat), AV.ptr (1 : Nat) (0 : Nat), AV.int IntKind.i64 (↑(0 : Nat) : Int)]
  [Blk.var
      [AV.str a0, AV.str a1, AV.lst (5 : Nat) (List.map tyC.elem a2) Tl.open_,
        AV.lst (2 : Nat) (List.map tyF.elem a3) Tl.open_, AV.lst (5 : Nat) (List.map tyM.elem a4) Tl.open_],
    Blk.var
      [AV.str b0, AV.str b1, AV.lst (5 : Nat) (List.map tyC.elem b2) Tl.open_,
        AV.lst (2 : Nat) (List.map tyF.elem b3) Tl.open_, AV.lst (5 : Nat) (List.map tyM.elem b4) Tl.open_]]
  [Blk.var
      [AV.str a0, AV.str a1, AV.lst (5 : Nat) (List.map tyC.elem a2) Tl.open_,
        AV.lst (2 : Nat) (List.map tyF.elem a3) Tl.open_, AV.lst (5 : Nat) (List.map tyM.elem a4) Tl.open_],
    Blk.var
      [AV.str b0, AV.str b1, AV.lst (5 : Nat) (List.map tyC.elem b2) Tl.open_,
        AV.lst (2 : Nat) (List.map tyF.elem b3) Tl.open_, AV.lst (5 : Nat) (List.map tyM.elem b4) Tl.open_]])
                (T.br (askS [AV.ptr (0 : Nat) (0 : Nat), AV.ptr (1 : Nat) (0 : Nat), AV.int IntKind.i64 (0 : Int)]
  [AV.ptr (0 : Nat) (0 : Nat), AV.ptr (1 : Nat) (0 : Nat), AV.int IntKind.i64 (↑(0 : Nat) : Int)]
  [Blk.var
      [AV.str a0, AV.str a1, AV.lst (5 : Nat) (List.map tyC.elem a2) Tl.open_,
        AV.lst (2 : Nat) (List.map tyF.elem a3) Tl.open_, AV.lst (5 : Nat) (List.map tyM.elem a4) Tl.open_],
    Blk.var
      [AV.str b0, AV.str b1, AV.lst (5 : Nat) (List.map tyC.elem b2) Tl.open_,
        AV.lst (2 : Nat) (List.map tyF.elem b3) Tl.open_, AV.lst (5 : Nat) (List.map tyM.elem b4) Tl.open_]]
  [Blk.var
      [AV.str a0, AV.str a1, AV.lst (5 : Nat) (List.map tyC.elem a2) Tl.open_,
        AV.lst (2 : Nat) (List.map tyF.elem a3) Tl.open_, AV.lst (5 : Nat) (List.map tyM.elem a4) Tl.open_],
    Blk.var
      [AV.str b0, AV.str b1, AV.lst (5 : Nat) (List.map tyC.elem b2) Tl.open_,
        AV.lst (2 : Nat) (List.map tyF.elem b3) Tl.open_, AV.lst (5 : Nat) (List.map tyM.elem b4) Tl.open_]])
                  (T.leaf (AV.bool true))
                  T.fail)
                T.fail)))
          (T.br (!decide ((↑(List.map tyF.elem a3).length : Int) = (↑(List.map tyF.elem b3).length : Int)))
            (T.br true
              (T.leaf (AV.bool false))
              (T.br (askS [AV.ptr (0 : Nat) (0 : Nat), AV.ptr (1 : Nat) (0 : Nat), AV.int IntKind.i64 (0 : Int)]
  [AV.ptr (0 : Nat) (0 : Nat), AV.ptr (1 : Nat) (0 : Nat), AV.int IntKind.i64 (↑(0 : Nat) : Int)]
  [Blk.var
      [AV.str a0, AV.str a1, AV.lst (5 : Nat) (List.map tyC.elem a2) Tl.open_,
        AV.lst (2 : Nat) (List.map tyF.elem a3) Tl.open_, AV.lst (5 : Nat) (List.map tyM.elem a4) Tl.open_],
    Blk.var
      [AV.str b0, AV.str b1, AV.lst (5 : Nat) (List.map tyC.elem b2) Tl.open_,
        AV.lst (2 : Nat) (List.map tyF.elem b3) Tl.open_, AV.lst (5 : Nat) (List.map tyM.elem b4) Tl.open_]]
  [Blk.var
      [AV.str a0, AV.str a1, AV.lst (5 : Nat) (List.map tyC.elem a2) Tl.open_,
        AV.lst (2 : Nat) (List.map tyF.elem a3) Tl.open_, AV.lst (5 : Nat) (List.map tyM.elem a4) Tl.open_],
    Blk.var
      [AV.str b0, AV.str b1, AV.lst (5 : Nat) (List.map tyC.elem b2) Tl.open_,
        AV.lst (2 : Nat) (List.map tyF.elem b3) Tl.open_, AV.lst (5 : Nat) (List.map tyM.elem b4) Tl.open_]])
                (T.br (askS [AV.ptr (0 : Nat) (0 : Nat), AV.ptr (1 : Nat) (0 : Nat), AV.int IntKind.i64 (0 : Int)]
  [AV.ptr (0 : Nat) (0 : Nat), AV.ptr (1 : Nat) (0 : Nat), AV.int IntKind.i64 (↑(0 : Nat) : Int)]
  [Blk.var
      [AV.str a0, AV.str a1, AV.lst (5 : Nat) (List.map tyC.elem a2) Tl.open_,
        AV.lst (2 : Nat) (List.map tyF.elem a3) Tl.open_, AV.lst (5 : Nat) (List.map tyM.elem a4) Tl.open_],
    Blk.var
      [AV.str b0, AV.str b1, AV.lst (5 : Nat) (List.map tyC.elem b2) Tl.open_,
        AV.lst (2 : Nat) (List.map tyF.elem b3) Tl.open_, AV.lst (5 : Nat) (List.map tyM.elem b4) Tl.open_]]
  [Blk.var
      [AV.str a0, AV.str a1, AV.lst (5 : Nat) (List.map tyC.elem a2) Tl.open_,
        AV.lst (2 : Nat) (List.map tyF.elem a3) Tl.open_, AV.lst (5 : Nat) (List.map tyM.elem a4) Tl.open_],
    Blk.var
      [AV.str b0, AV.str b1, AV.lst (5 : Nat) (List.map tyC.elem b2) Tl.open_,
        AV.lst (2 : Nat) (List.map tyF.elem b3) Tl.open_, AV.lst (5 : Nat) (List.map tyM.elem b4) Tl.open_]])
                  (T.leaf (AV.bool true))
                  T.fail)
                T.fail))
            (T.br (!decide ((↑(List.map tyM.elem a4).length : Int) = (↑(List.map tyM.elem b4).length : Int)))
              (T.leaf (AV.bool false))
              (T.br (askS [AV.ptr (0 : Nat) (0 : Nat), AV.ptr (1 : Nat) (0 : Nat), AV.int IntKind.i64 (0 : Int)]
  [AV.ptr (0 : Nat) (0 : Nat), AV.ptr (1 : Nat) (0 : Nat), AV.int IntKind.i64 (↑(0 : Nat) : Int)]
  [Blk.var
      [AV.str a0, AV.str a1, AV.lst (5 : Nat) (List.map tyC.elem a2) Tl.open_,
        AV.lst (2 : Nat) (List.map tyF.elem a3) Tl.open_, AV.lst (5 : Nat) (List.map tyM.elem a4) Tl.open_],
    Blk.var
      [AV.str b0, AV.str b1, AV.lst (5 : Nat) (List.map tyC.elem b2) Tl.open_,
        AV.lst (2 : Nat) (List.map tyF.elem b3) Tl.open_, AV.lst (5 : Nat) (List.map tyM.elem b4) Tl.open_]]
  [Blk.var
      [AV.str a0, AV.str a1, AV.lst (5 : Nat) (List.map tyC.elem a2) Tl.open_,
        AV.lst (2 : Nat) (List.map tyF.elem a3) Tl.open_, AV.lst (5 : Nat) (List.map tyM.elem a4) Tl.open_],
    Blk.var
      [AV.str b0, AV.str b1, AV.lst (5 : Nat) (List.map tyC.elem b2) Tl.open_,
        AV.lst (2 : Nat) (List.map tyF.elem b3) Tl.open_, AV.lst (5 : Nat) (List.map tyM.elem b4) Tl.open_]])
                (T.br (askS [AV.ptr (0 : Nat) (0 : Nat), AV.ptr (1 : Nat) (0 : Nat), AV.int IntKind.i64 (0 : Int)]
  [AV.ptr (0 : Nat) (0 : Nat), AV.ptr (1 : Nat) (0 : Nat), AV.int IntKind.i64 (↑(0 : Nat) : Int)]
  [Blk.var
      [AV.str a0, AV.str a1, AV.lst (5 : Nat) (List.map tyC.elem a2) Tl.open_,
        AV.lst (2 : Nat) (List.map tyF.elem a3) Tl.open_, AV.lst (5 : Nat) (List.map tyM.elem a4) Tl.open_],
    Blk.var
      [AV.str b0, AV.str b1, AV.lst (5 : Nat) (List.map tyC.elem b2) Tl.open_,
        AV.lst (2 : Nat) (List.map tyF.elem b3) Tl.open_, AV.lst (5 : Nat) (List.map tyM.elem b4) Tl.open_]]
  [Blk.var
      [AV.str a0, AV.str a1, AV.lst (5 : Nat) (List.map tyC.elem a2) Tl.open_,
        AV.lst (2 : Nat) (List.map tyF.elem a3) Tl.open_, AV.lst (5 : Nat) (List.map tyM.elem a4) Tl.open_],
    Blk.var
      [AV.str b0, AV.str b1, AV.lst (5 : Nat) (List.map tyC.elem b2) Tl.open_,
        AV.lst (2 : Nat) (List.map tyF.elem b3) Tl.open_, AV.lst (5 : Nat) (List.map tyM.elem b4) Tl.open_]])
                  (T.leaf (AV.bool true))
                  T.fail)
                T.fail))))
        T.fail))
    (T.br (!decide (a1 = b1))
      (T.br true
        (T.br true
          (T.br true
            (T.leaf (AV.bool false))
            (T.br (askS [AV.ptr (0 : Nat) (0 : Nat), AV.ptr (1 : Nat) (0 : Nat), AV.int IntKind.i64 (0 : Int)]
  [AV.ptr (0 : Nat) (0 : Nat), AV.ptr (1 : Nat) (0 : Nat), AV.int IntKind.i64 (↑(0 : Nat) : Int)]
  [Blk.var
      [AV.str a0, AV.str a1, AV.lst (5 : Nat) (List.map tyC.elem a2) Tl.open_,
        AV.lst (2 : Nat) (List.map tyF.elem a3) Tl.open_, AV.lst (5 : Nat) (List.map tyM.elem a4) Tl.open_],
    Blk.var
      [AV.str b0, AV.str b1, AV.lst (5 : Nat) (List.map tyC.elem b2) Tl.open_,
        AV.lst (2 : Nat) (List.map tyF.elem b3) Tl.open_, AV.lst (5 : Nat) (List.map tyM.elem b4) Tl.open_]]
  [Blk.var
      [AV.str a0, AV.str a1, AV.lst (5 : Nat) (List.map tyC.elem a2) Tl.open_,
        AV.lst (2 : Nat) (List.map tyF.elem a3) Tl.open_, AV.lst (5 : Nat) (List.map tyM.elem a4) Tl.open_],
    Blk.var
      [AV.str b0, AV.str b1, AV.lst (5 : Nat) (List.map tyC.elem b2) Tl.open_,
        AV.lst (2 : Nat) (List.map tyF.elem b3) Tl.open_, AV.lst (5 : Nat) (List.map tyM.elem b4) Tl.open_]])
              (T.br (askS [AV.ptr (0 : Nat) (0 : Nat), AV.ptr (1 : Nat) (0 : Nat), AV.int IntKind.i64 (0 : Int)]
  [AV.ptr (0 : Nat) (0 : Nat), AV.ptr (1 : Nat) (0 : Nat), AV.int IntKind.i64 (↑(0 : Nat) : Int)]
  [Blk.var
      [AV.str a0, AV.str a1, AV.lst (5 : Nat) (List.map tyC.elem a2) Tl.open_,
        AV.lst (2 : Nat) (List.map tyF.elem a3) Tl.open_, AV.lst (5 : Nat) (List.map tyM.elem a4) Tl.open_],
    Blk.var
      [AV.str b0, AV.str b1, AV.lst (5 : Nat) (List.map tyC.elem b2) Tl.open_,
        AV.lst (2 : Nat) (List.map tyF.elem b3) Tl.open_, AV.lst (5 : Nat) (List.map tyM.elem b4) Tl.open_]]
  [Blk.var
      [AV.str a0, AV.str a1, AV.lst (5 : Nat) (List.map tyC.elem a2) Tl.open_,
        AV.lst (2 : Nat) (List.map tyF.elem a3) Tl.open_, AV.lst (5 : Nat) (List.map tyM.elem a4) Tl.open_],
    Blk.var
      [AV.str b0, AV.str b1, AV.lst (5 : Nat) (List.map tyC.elem b2) Tl.open_,
        AV.lst (2 : Nat) (List.map tyF.elem b3) Tl.open_, AV.lst (5 : Nat) (List.map tyM.elem b4) Tl.open_]])
                (T.leaf (AV.bool true))
                T.fail)
              T.fail))
          (T.br (!decide ((↑(List.map tyM.elem a4).length : Int) = (↑(List.map tyM.elem b4).length : Int)))
            (T.leaf (AV.bool false))
            (T.br (askS [AV.ptr (0 : Nat) (0 : Nat), AV.ptr (1 : Nat) (0 : Nat), AV.int IntKind.i64 (0 : Int)]
  [AV.ptr (0 : Nat) (0 : Nat), AV.ptr (1 : Nat) (0 : Nat), AV.int IntKind.i64 (↑(0 : Nat) : Int)]
  [Blk.var
      [AV.str a0, AV.str a1, AV.lst (5 : Nat) (List.map tyC.elem a2) Tl.open_,
        AV.lst (2 : Nat) (List.map tyF.elem a3) Tl.open_, AV.lst (5 : Nat) (List.map tyM.elem a4) Tl.open_],
    Blk.var
      [AV.str b0, AV.str b1, AV.lst (5 : Nat) (List.map tyC.elem b2) Tl.open_,
        AV.lst (2 : Nat) (List.map tyF.elem b3) Tl.open_, AV.lst (5 : Nat) (List.map tyM.elem b4) Tl.open_]]
  [Blk.var
      [AV.str a0, AV.str a1, AV.lst (5 : Nat) (List.map tyC.elem a2) Tl.open_,
        AV.lst (2 : Nat) (List.map tyF.elem a3) Tl.open_, AV.lst (5 : Nat) (List.map tyM.elem a4) Tl.open_],
    Blk.var
      [AV.str b0, AV.str b1, AV.lst (5 : Nat) (List.map tyC.elem b2) Tl.open_,
        AV.lst (2 : Nat) (List.map tyF.elem b3) Tl.open_, AV.lst (5 : Nat) (List.map tyM.elem b4) Tl.open_]])
              (T.br (askS [AV.ptr (0 : Nat) (0 : Nat), AV.ptr (1 : Nat) (0 : Nat), AV.int IntKind.i64 (0 : Int)]
  [AV.ptr (0 : Nat) (0 : Nat), AV.ptr (1 : Nat) (0 : Nat), AV.int IntKind.i64 (↑(0 : Nat) : Int)]
  [Blk.var
      [AV.str a0, AV.str a1, AV.lst (5 : Nat) (List.map tyC.elem a2) Tl.open_,
        AV.lst (2 : Nat) (List.map tyF.elem a3) Tl.open_, AV.lst (5 : Nat) (List.map tyM.elem a4) Tl.open_],
    Blk.var
      [AV.str b0, AV.str b1, AV.lst (5 : Nat) (List.map tyC.elem b2) Tl.open_,
        AV.lst (2 : Nat) (List.map tyF.elem b3) Tl.open_, AV.lst (5 : Nat) (List.map tyM.elem b4) Tl.open_]]
  [Blk.var
      [AV.str a0, AV.str a1, AV.lst (5 : Nat) (List.map tyC.elem a2) Tl.open_,
        AV.lst (2 : Nat) (List.map tyF.elem a3) Tl.open_, AV.lst (5 : Nat) (List.map tyM.elem a4) Tl.open_],
    Blk.var
      [AV.str b0, AV.str b1, AV.lst (5 : Nat) (List.map tyC.elem b2) Tl.open_,
        AV.lst (2 : Nat) (List.map tyF.elem b3) Tl.open_, AV.lst (5 : Nat) (List.map tyM.elem b4) Tl.open_]])
                (T.leaf (AV.bool true))
                T.fail)
              T.fail)))
        (T.br (!decide ((↑(List.map tyF.elem a3).length : Int) = (↑(List.map tyF.elem b3).length : Int)))
          (T.br true
            (T.leaf (AV.bool false))
            (T.br (askS [AV.ptr (0 : Nat) (0 : Nat), AV.ptr (1 : Nat) (0 : Nat), AV.int IntKind.i64 (0 : Int)]
  [AV.ptr (0 : Nat) (0 : Nat), AV.ptr (1 : Nat) (0 : Nat), AV.int IntKind.i64 (↑(0 : Nat) : Int)]
  [Blk.var
      [AV.str a0, AV.str a1, AV.lst (5 : Nat) (List.map tyC.elem a2) Tl.open_,
        AV.lst (2 : Nat) (List.map tyF.elem a3) Tl.open_, AV.lst (5 : Nat) (List.map tyM.elem a4) Tl.open_],
    Blk.var
      [AV.str b0, AV.str b1, AV.lst (5 : Nat) (List.map tyC.elem b2) Tl.open_,
        AV.lst (2 : Nat) (List.map tyF.elem b3) Tl.open_, AV.lst (5 : Nat) (List.map tyM.elem b4) Tl.open_]]
  [Blk.var
      [AV.str a0, AV.str a1, AV.lst (5 : Nat) (List.map tyC.elem a2) Tl.open_,
        AV.lst (2 : Nat) (List.map tyF.elem a3) Tl.open_, AV.lst (5 : Nat) (List.map tyM.elem a4) Tl.open_],
    Blk.var
      [AV.str b0, AV.str b1, AV.lst (5 : Nat) (List.map tyC.elem b2) Tl.open_,
        AV.lst (2 : Nat) (List.map tyF.elem b3) Tl.open_, AV.lst (5 : Nat) (List.map tyM.elem b4) Tl.open_]])
              (T.br (askS [AV.ptr (0 : Nat) (0 : Nat), AV.ptr (1 : Nat) (0 : Nat), AV.int IntKind.i64 (0 : Int)]
  [AV.ptr (0 : Nat) (0 : Nat), AV.ptr (1 : Nat) (0 : Nat), AV.int IntKind.i64 (↑(0 : Nat) : Int)]
  [Blk.var
      [AV.str a0, AV.str a1, AV.lst (5 : Nat) (List.map tyC.elem a2) Tl.open_,
        AV.lst (2 : Nat) (List.map tyF.elem a3) Tl.open_, AV.lst (5 : Nat) (List.map tyM.elem a4) Tl.open_],
    Blk.var
      [AV.str b0, AV.str b1, AV.lst (5 : Nat) (List.map tyC.elem b2) Tl.open_,
        AV.lst (2 : Nat) (List.map tyF.elem b3) Tl.open_, AV.lst (5 : Nat) (List.map tyM.elem b4) Tl.open_]]
  [Blk.var
      [AV.str a0, AV.str a1, AV.lst (5 : Nat) (List.map tyC.elem a2) Tl.open_,
        AV.lst (2 : Nat) (List.map tyF.elem a3) Tl.open_, AV.lst (5 : Nat) (List.map tyM.elem a4) Tl.open_],
    Blk.var
      [AV.str b0, AV.str b1, AV.lst (5 : Nat) (List.map tyC.elem b2) Tl.open_,
        AV.lst (2 : Nat) (List.map tyF.elem b3) Tl.open_, AV.lst (5 : Nat) (List.map tyM.elem b4) Tl.open_]])
                (T.leaf (AV.bool true))
                T.fail)
              T.fail))
          (T.br (!decide ((↑(List.map tyM.elem a4).length : Int) = (↑(List.map tyM.elem b4).length : Int)))
            (T.leaf (AV.bool false))
            (T.br (askS [AV.ptr (0 : Nat) (0 : Nat), AV.ptr (1 : Nat) (0 : Nat), AV.int IntKind.i64 (0 : Int)]
  [AV.ptr (0 : Nat) (0 : Nat), AV.ptr (1 : Nat) (0 : Nat), AV.int IntKind.i64 (↑(0 : Nat) : Int)]
  [Blk.var
      [AV.str a0, AV.str a1, AV.lst (5 : Nat) (List.map tyC.elem a2) Tl.open_,
        AV.lst (2 : Nat) (List.map tyF.elem a3) Tl.open_, AV.lst (5 : Nat) (List.map tyM.elem a4) Tl.open_],
    Blk.var
      [AV.str b0, AV.str b1, AV.lst (5 : Nat) (List.map tyC.elem b2) Tl.open_,
        AV.lst (2 : Nat) (List.map tyF.elem b3) Tl.open_, AV.lst (5 : Nat) (List.map tyM.elem b4) Tl.open_]]
  [Blk.var
      [AV.str a0, AV.str a1, AV.lst (5 : Nat) (List.map tyC.elem a2) Tl.open_,
        AV.lst (2 : Nat) (List.map tyF.elem a3) Tl.open_, AV.lst (5 : Nat) (List.map tyM.elem a4) Tl.open_],
    Blk.var
      [AV.str b0, AV.str b1, AV.lst (5 : Nat) (List.map tyC.elem b2) Tl.open_,
        AV.lst (2 : Nat) (List.map tyF.elem b3) Tl.open_, AV.lst (5 : Nat) (List.map tyM.elem b4) Tl.open_]])
              (T.br (askS [AV.ptr (0 : Nat) (0 : Nat), AV.ptr (1 : Nat) (0 : Nat), AV.int IntKind.i64 (0 : Int)]
  [AV.ptr (0 : Nat) (0 : Nat), AV.ptr (1 : Nat) (0 : Nat), AV.int IntKind.i64 (↑(0 : Nat) : Int)]
  [Blk.var
      [AV.str a0, AV.str a1, AV.lst (5 : Nat) (List.map tyC.elem a2) Tl.open_,
        AV.lst (2 : Nat) (List.map tyF.elem a3) Tl.open_, AV.lst (5 : Nat) (List.map tyM.elem a4) Tl.open_],
    Blk.var
      [AV.str b0, AV.str b1, AV.lst (5 : Nat) (List.map tyC.elem b2) Tl.open_,
        AV.lst (2 : Nat) (List.map tyF.elem b3) Tl.open_, AV.lst (5 : Nat) (List.map tyM.elem b4) Tl.open_]]
  [Blk.var
      [AV.str a0, AV.str a1, AV.lst (5 : Nat) (List.map tyC.elem a2) Tl.open_,
        AV.lst (2 : Nat) (List.map tyF.elem a3) Tl.open_, AV.lst (5 : Nat) (List.map tyM.elem a4) Tl.open_],
    Blk.var
      [AV.str b0, AV.str b1, AV.lst (5 : Nat) (List.map tyC.elem b2) Tl.open_,
        AV.lst (2 : Nat) (List.map tyF.elem b3) Tl.open_, AV.lst (5 : Nat) (List.map tyM.elem b4) Tl.open_]])
                (T.leaf (AV.bool true))
                T.fail)
              T.fail))))
      (T.br (askQ (clLL (26 : FuncId) tyC).2
  [AV.lst (5 : Nat) (List.map tyC.elem a2) Tl.open_, AV.lst (5 : Nat) (List.map tyC.elem b2) Tl.open_])
        (T.br (!ask
    (AV.lst (5 : Nat) (List.map tyC.elem a2) Tl.open_ = AV.lst (5 : Nat) (List.map tyC.elem b2) Tl.open_))
          (T.br true
            (T.br true
              (T.leaf (AV.bool false))
              (T.br (askS [AV.ptr (0 : Nat) (0 : Nat), AV.ptr (1 : Nat) (0 : Nat), AV.int IntKind.i64 (0 : Int)]
  [AV.ptr (0 : Nat) (0 : Nat), AV.ptr (1 : Nat) (0 : Nat), AV.int IntKind.i64 (↑(0 : Nat) : Int)]
  [Blk.var
      [AV.str a0, AV.str a1, AV.lst (5 : Nat) (List.map tyC.elem a2) Tl.open_,
        AV.lst (2 : Nat) (List.map tyF.elem a3) Tl.open_, AV.lst (5 : Nat) (List.map tyM.elem a4) Tl.open_],
    Blk.var
      [AV.str b0, AV.str b1, AV.lst (5 : Nat) (List.map tyC.elem b2) Tl.open_,
        AV.lst (2 : Nat) (List.map tyF.elem b3) Tl.open_, AV.lst (5 : Nat) (List.map tyM.elem b4) Tl.open_]]
  [Blk.var
      [AV.str a0, AV.str a1, AV.lst (5 : Nat) (List.map tyC.elem a2) Tl.open_,
        AV.lst (2 : Nat) (List.map tyF.elem a3) Tl.open_, AV.lst (5 : Nat) (List.map tyM.elem a4) Tl.open_],
    Blk.var
      [AV.str b0, AV.str b1, AV.lst (5 : Nat) (List.map tyC.elem b2) Tl.open_,
        AV.lst (2 : Nat) (List.map tyF.elem b3) Tl.open_, AV.lst (5 : Nat) (List.map tyM.elem b4) Tl.open_]])
                (T.br (askS [AV.ptr (0 : Nat) (0 : Nat), AV.ptr (1 : Nat) (0 : Nat), AV.int IntKind.i64 (0 : Int)]
  [AV.ptr (0 : Nat) (0 : Nat), AV.ptr (1 : Nat) (0 : Nat), AV.int IntKind.i64 (↑(0 : Nat) : Int)]
  [Blk.var
      [AV.str a0, AV.str a1, AV.lst (5 : Nat) (List.map tyC.elem a2) Tl.open_,
        AV.lst (2 : Nat) (List.map tyF.elem a3) Tl.open_, AV.lst (5 : Nat) (List.map tyM.elem a4) Tl.open_],
    Blk.var
      [AV.str b0, AV.str b1, AV.lst (5 : Nat) (List.map tyC.elem b2) Tl.open_,
        AV.lst (2 : Nat) (List.map tyF.elem b3) Tl.open_, AV.lst (5 : Nat) (List.map tyM.elem b4) Tl.open_]]
  [Blk.var
      [AV.str a0, AV.str a1, AV.lst (5 : Nat) (List.map tyC.elem a2) Tl.open_,
        AV.lst (2 : Nat) (List.map tyF.elem a3) Tl.open_, AV.lst (5 : Nat) (List.map tyM.elem a4) Tl.open_],
    Blk.var
      [AV.str b0, AV.str b1, AV.lst (5 : Nat) (List.map tyC.elem b2) Tl.open_,
        AV.lst (2 : Nat) (List.map tyF.elem b3) Tl.open_, AV.lst (5 : Nat) (List.map tyM.elem b4) Tl.open_]])
                  (T.leaf (AV.bool true))
                  T.fail)
                T.fail))
            (T.br (!decide ((↑(List.map tyM.elem a4).length : Int) = (↑(List.map tyM.elem b4).length : Int)))
              (T.leaf (AV.bool false))
              (T.br (askS [AV.ptr (0 : Nat) (0 : Nat), AV.ptr (1 : Nat) (0 : Nat), AV.int IntKind.i64 (0 : Int)]
  [AV.ptr (0 : Nat) (0 : Nat), AV.ptr (1 : Nat) (0 : Nat), AV.int IntKind.i64 (↑(0 : Nat) : Int)]
  [Blk.var
      [AV.str a0, AV.str a1, AV.lst (5 : Nat) (List.map tyC.elem a2) Tl.open_,
        AV.lst (2 : Nat) (List.map tyF.elem a3) Tl.open_, AV.lst (5 : Nat) (List.map tyM.elem a4) Tl.open_],
    Blk.var
      [AV.str b0, AV.str b1, AV.lst (5 : Nat) (List.map tyC.elem b2) Tl.open_,
        AV.lst (2 : Nat) (List.map tyF.elem b3) Tl.open_, AV.lst (5 : Nat) (List.map tyM.elem b4) Tl.open_]]
  [Blk.var
      [AV.str a0, AV.str a1, AV.lst (5 : Nat) (List.map tyC.elem a2) Tl.open_,
        AV.lst (2 : Nat) (List.map tyF.elem a3) Tl.open_, AV.lst (5 : Nat) (List.map tyM.elem a4) Tl.open_],
    Blk.var
      [AV.str b0, AV.str b1, AV.lst (5 : Nat) (List.map tyC.elem b2) Tl.open_,
        AV.lst (2 : Nat) (List.map tyF.elem b3) Tl.open_, AV.lst (5 : Nat) (List.map tyM.elem b4) Tl.open_]])
                (T.br (askS [AV.ptr (0 : Nat) (0 : Nat), AV.ptr (1 : Nat) (0 : Nat), AV.int IntKind.i64 (0 : Int)]
  [AV.ptr (0 : Nat) (0 : Nat), AV.ptr (1 : Nat) (0 : Nat), AV.int IntKind.i64 (↑(0 : Nat) : Int)]
  [Blk.var
      [AV.str a0, AV.str a1, AV.lst (5 : Nat) (List.map tyC.elem a2) Tl.open_,
        AV.lst (2 : Nat) (List.map tyF.elem a3) Tl.open_, AV.lst (5 : Nat) (List.map tyM.elem a4) Tl.open_],
    Blk.var
      [AV.str b0, AV.str b1, AV.lst (5 : Nat) (List.map tyC.elem b2) Tl.open_,
        AV.lst (2 : Nat) (List.map tyF.elem b3) Tl.open_, AV.lst (5 : Nat) (List.map tyM.elem b4) Tl.open_]]
  [Blk.var
      [AV.str a0, AV.str a1, AV.lst (5 : Nat) (List.map tyC.elem a2) Tl.open_,
        AV.lst (2 : Nat) (List.map tyF.elem a3) Tl.open_, AV.lst (5 : Nat) (List.map tyM.elem a4) Tl.open_],
    Blk.var
      [AV.str b0, AV.str b1, AV.lst (5 : Nat) (List.map tyC.elem b2) Tl.open_,
        AV.lst (2 : Nat) (List.map tyF.elem b3) Tl.open_, AV.lst (5 : Nat) (List.map tyM.elem b4) Tl.open_]])
                  (T.leaf (AV.bool true))
                  T.fail)
                T.fail)))
          (T.br (!decide ((↑(List.map tyF.elem a3).length : Int) = (↑(List.map tyF.elem b3).length : Int)))
            (T.br true
              (T.leaf (AV.bool false))
              (T.br (askS [AV.ptr (0 : Nat) (0 : Nat), AV.ptr (1 : Nat) (0 : Nat), AV.int IntKind.i64 (0 : Int)]
  [AV.ptr (0 : Nat) (0 : Nat), AV.ptr (1 : Nat) (0 : Nat), AV.int IntKind.i64 (↑(0 : Nat) : Int)]
  [Blk.var
      [AV.str a0, AV.str a1, AV.lst (5 : Nat) (List.map tyC.elem a2) Tl.open_,
        AV.lst (2 : Nat) (List.map tyF.elem a3) Tl.open_, AV.lst (5 : Nat) (List.map tyM.elem a4) Tl.open_],
    Blk.var
      [AV.str b0, AV.str b1, AV.lst (5 : Nat) (List.map tyC.elem b2) Tl.open_,
        AV.lst (2 : Nat) (List.map tyF.elem b3) Tl.open_, AV.lst (5 : Nat) (List.map tyM.elem b4) Tl.open_]]
  [Blk.var
      [AV.str a0, AV.str a1, AV.lst (5 : Nat) (List.map tyC.elem a2) Tl.open_,
        AV.lst (2 : Nat) (List.map tyF.elem a3) Tl.open_, AV.lst (5 : Nat) (List.map tyM.elem a4) Tl.open_],
    Blk.var
      [AV.str b0, AV.str b1, AV.lst (5 : Nat) (List.map tyC.elem b2) Tl.open_,
        AV.lst (2 : Nat) (List.map tyF.elem b3) Tl.open_, AV.lst (5 : Nat) (List.map tyM.elem b4) Tl.open_]])
                (T.br (askS [AV.ptr (0 : Nat) (0 : Nat), AV.ptr (1 : Nat) (0 : Nat), AV.int IntKind.i64 (0 : Int)]
  [AV.ptr (0 : Nat) (0 : Nat), AV.ptr (1 : Nat) (0 : Nat), AV.int IntKind.i64 (↑(0 : Nat) : Int)]
  [Blk.var
      [AV.str a0, AV.str a1, AV.lst (5 : Nat) (List.map tyC.elem a2) Tl.open_,
        AV.lst (2 : Nat) (List.map tyF.elem a3) Tl.open_, AV.lst (5 : Nat) (List.map tyM.elem a4) Tl.open_],
    Blk.var
      [AV.str b0, AV.str b1, AV.lst (5 : Nat) (List.map tyC.elem b2) Tl.open_,
        AV.lst (2 : Nat) (List.map tyF.elem b3) Tl.open_, AV.lst (5 : Nat) (List.map tyM.elem b4) Tl.open_]]
  [Blk.var
      [AV.str a0, AV.str a1, AV.lst (5 : Nat) (List.map tyC.elem a2) Tl.open_,
        AV.lst (2 : Nat) (List.map tyF.elem a3) Tl.open_, AV.lst (5 : Nat) (List.map tyM.elem a4) Tl.open_],
    Blk.var
      [AV.str b0, AV.str b1, AV.lst (5 : Nat) (List.map tyC.elem b2) Tl.open_,
        AV.lst (2 : Nat) (List.map tyF.elem b3) Tl.open_, AV.lst (5 : Nat) (List.map tyM.elem b4) Tl.open_]])
                  (T.leaf (AV.bool true))
                  T.fail)
                T.fail))
            (T.br (!decide ((↑(List.map tyM.elem a4).length : Int) = (↑(List.map tyM.elem b4).length : Int)))
              (T.leaf (AV.bool false))
              (T.br (askS [AV.ptr (0 : Nat) (0 : Nat), AV.ptr (1 : Nat) (0 : Nat), AV.int IntKind.i64 (0 : Int)]
  [AV.ptr (0 : Nat) (0 : Nat), AV.ptr (1 : Nat) (0 : Nat), AV.int IntKind.i64 (↑(0 : Nat) : Int)]
  [Blk.var
      [AV.str a0, AV.str a1, AV.lst (5 : Nat) (List.map tyC.elem a2) Tl.open_,
        AV.lst (2 : Nat) (List.map tyF.elem a3) Tl.open_, AV.lst (5 : Nat) (List.map tyM.elem a4) Tl.open_],
    Blk.var
      [AV.str b0, AV.str b1, AV.lst (5 : Nat) (List.map tyC.elem b2) Tl.open_,
        AV.lst (2 : Nat) (List.map tyF.elem b3) Tl.open_, AV.lst (5 : Nat) (List.map tyM.elem b4) Tl.open_]]
  [Blk.var
      [AV.str a0, AV.str a1, AV.lst (5 : Nat) (List.map tyC.elem a2) Tl.open_,
        AV.lst (2 : Nat) (List.map tyF.elem a3) Tl.open_, AV.lst (5 : Nat) (List.map tyM.elem a4) Tl.open_],
    Blk.var
      [AV.str b0, AV.str b1, AV.lst (5 : Nat) (List.map tyC.elem b2) Tl.open_,
        AV.lst (2 : Nat) (List.map tyF.elem b3) Tl.open_, AV.lst (5 : Nat) (List.map tyM.elem b4) Tl.open_]])
                (T.br (askS [AV.ptr (0 : Nat) (0 : Nat), AV.ptr (1 : Nat) (0 : Nat), AV.int IntKind.i64 (0 : Int)]
  [AV.ptr (0 : Nat) (0 : Nat), AV.ptr (1 : Nat) (0 : Nat), AV.int IntKind.i64 (↑(0 : Nat) : Int)]
  [Blk.var
      [AV.str a0, AV.str a1, AV.lst (5 : Nat) (List.map tyC.elem a2) Tl.open_,
        AV.lst (2 : Nat) (List.map tyF.elem a3) Tl.open_, AV.lst (5 : Nat) (List.map tyM.elem a4) Tl.open_],
    Blk.var
      [AV.str b0, AV.str b1, AV.lst (5 : Nat) (List.map tyC.elem b2) Tl.open_,
        AV.lst (2 : Nat) (List.map tyF.elem b3) Tl.open_, AV.lst (5 : Nat) (List.map tyM.elem b4) Tl.open_]]
  [Blk.var
      [AV.str a0, AV.str a1, AV.lst (5 : Nat) (List.map tyC.elem a2) Tl.open_,
        AV.lst (2 : Nat) (List.map tyF.elem a3) Tl.open_, AV.lst (5 : Nat) (List.map tyM.elem a4) Tl.open_],
    Blk.var
      [AV.str b0, AV.str b1, AV.lst (5 : Nat) (List.map tyC.elem b2) Tl.open_,
        AV.lst (2 : Nat) (List.map tyF.elem b3) Tl.open_, AV.lst (5 : Nat) (List.map tyM.elem b4) Tl.open_]])
                  (T.leaf (AV.bool true))
                  T.fail)
                T.fail))))
        T.fail))) := by kernel_rfl
theorem p11nr (a0 a1 : ByteArray) (a2 : List tyC.I) (a3 : List tyF.I) (a4 : List tyM.I) (b0 b1 : ByteArray) (b2 : List tyC.I) (b3 : List tyF.I) (b4 : List tyM.I) : runV (XC 25 [12,19,27,36,44,49,62,67,81] [clLL 26 tyC, clEE 51 tyM]) (kTwo (kAt [1,1,0,1] (st11a 0) [.var [.str a0, .str a1, encL tyC a2, encL tyF a3, encL tyM a4], .var [.str b0, .str b1, encL tyC b2, encL tyF b3, encL tyM b4]] .normal (st11a a3.length) [.var [.str a0, .str a1, encL tyC a2, encL tyF a3, encL tyM a4], .var [.str b0, .str b1, encL tyC b2, encL tyF b3, encL tyM b4]]) (kAt [1,1,1,0,1] (st11b 0) [.var [.str a0, .str a1, encL tyC a2, encL tyF a3, encL tyM a4], .var [.str b0, .str b1, encL tyC b2, encL tyF b3, encL tyM b4]] .ret [(4, .bool false)] [.var [.str a0, .str a1, encL tyC a2, encL tyF a3, encL tyM a4], .var [.str b0, .str b1, encL tyC b2, encL tyF b3, encL tyM b4]])) Tryz.f25 (bodyOf Tryz.f25) [.agg [.str a0, .str a1, encL tyC a2, encL tyF a3, encL tyM a4], .agg [.str b0, .str b1, encL tyC b2, encL tyF b3, encL tyM b4]] =
  (T.br (!decide (a0 = b0))
    (T.br true
      (T.br true
        (T.br true
          (T.br true
            (T.leaf (AV.bool false))
            (T.br (askS [AV.ptr (0 : Nat) (0 : Nat), AV.ptr (1 : Nat) (0 : Nat), AV.int IntKind.i64 (0 : Int)]
  [AV.ptr (0 : Nat) (0 : Nat), AV.ptr (1 : Nat) (0 : Nat), AV.int IntKind.i64 (↑(0 : Nat) : Int)]
  [Blk.var
      [AV.str a0, AV.str a1, AV.lst (5 : Nat) (List.map tyC.elem a2) Tl.open_,
        AV.lst (2 : Nat) (List.map tyF.elem a3) Tl.open_, AV.lst (5 : Nat) (List.map tyM.elem a4) Tl.open_],
    Blk.var
      [AV.str b0, AV.str b1, AV.lst (5 : Nat) (List.map tyC.elem b2) Tl.open_,
        AV.lst (2 : Nat) (List.map tyF.elem b3) Tl.open_, AV.lst (5 : Nat) (List.map tyM.elem b4) Tl.open_]]
  [Blk.var
      [AV.str a0, AV.str a1, AV.lst (5 : Nat) (List.map tyC.elem a2) Tl.open_,
        AV.lst (2 : Nat) (List.map tyF.elem a3) Tl.open_, AV.lst (5 : Nat) (List.map tyM.elem a4) Tl.open_],
    Blk.var
      [AV.str b0, AV.str b1, AV.lst (5 : Nat) (List.map tyC.elem b2) Tl.open_,
        AV.lst (2 : Nat) (List.map tyF.elem b3) Tl.open_, AV.lst (5 : Nat) (List.map tyM.elem b4) Tl.open_]])
              (T.br (askS [AV.ptr (0 : Nat) (0 : Nat), AV.ptr (1 : Nat) (0 : Nat), AV.int IntKind.i64 (0 : Int)]
  [AV.ptr (0 : Nat) (0 : Nat), AV.ptr (1 : Nat) (0 : Nat), AV.int IntKind.i64 (↑(0 : Nat) : Int)]
  [Blk.var
      [AV.str a0, AV.str a1, AV.lst (5 : Nat) (List.map tyC.elem a2) Tl.open_,
        AV.lst (2 : Nat) (List.map tyF.elem a3) Tl.open_, AV.lst (5 : Nat) (List.map tyM.elem a4) Tl.open_],
    Blk.var
      [AV.str b0, AV.str b1, AV.lst (5 : Nat) (List.map tyC.elem b2) Tl.open_,
        AV.lst (2 : Nat) (List.map tyF.elem b3) Tl.open_, AV.lst (5 : Nat) (List.map tyM.elem b4) Tl.open_]]
  [Blk.var
      [AV.str a0, AV.str a1, AV.lst (5 : Nat) (List.map tyC.elem a2) Tl.open_,
        AV.lst (2 : Nat) (List.map tyF.elem a3) Tl.open_, AV.lst (5 : Nat) (List.map tyM.elem a4) Tl.open_],
    Blk.var
      [AV.str b0, AV.str b1, AV.lst (5 : Nat) (List.map tyC.elem b2) Tl.open_,
        AV.lst (2 : Nat) (List.map tyF.elem b3) Tl.open_, AV.lst (5 : Nat) (List.map tyM.elem b4) Tl.open_]])
                (T.leaf (AV.bool false))
                T.fail)
              T.fail))
          (T.br (!decide ((↑(List.map tyM.elem a4).length : Int) = (↑(List.map tyM.elem b4).length : Int)))
            (T.leaf (AV.bool false))
            (T.br (askS [AV.ptr (0 : Nat) (0 : Nat), AV.ptr (1 : Nat) (0 : Nat), AV.int IntKind.i64 (0 : Int)]
  [AV.ptr (0 : Nat) (0 : Nat), AV.ptr (1 : Nat) (0 : Nat), AV.int IntKind.i64 (↑(0 : Nat) : Int)]
  [Blk.var
      [AV.str a0, AV.str a1, AV.lst (5 : Nat) (List.map tyC.elem a2) Tl.open_,
        AV.lst (2 : Nat) (List.map tyF.elem a3) Tl.open_, AV.lst (5 : Nat) (List.map tyM.elem a4) Tl.open_],
    Blk.var
      [AV.str b0, AV.str b1, AV.lst (5 : Nat) (List.map tyC.elem b2) Tl.open_,
        AV.lst (2 : Nat) (List.map tyF.elem b3) Tl.open_, AV.lst (5 : Nat) (List.map tyM.elem b4) Tl.open_]]
  [Blk.var
      [AV.str a0, AV.str a1, AV.lst (5 : Nat) (List.map tyC.elem a2) Tl.open_,
        AV.lst (2 : Nat) (List.map tyF.elem a3) Tl.open_, AV.lst (5 : Nat) (List.map tyM.elem a4) Tl.open_],
    Blk.var
      [AV.str b0, AV.str b1, AV.lst (5 : Nat) (List.map tyC.elem b2) Tl.open_,
        AV.lst (2 : Nat) (List.map tyF.elem b3) Tl.open_, AV.lst (5 : Nat) (List.map tyM.elem b4) Tl.open_]])
              (T.br (askS [AV.ptr (0 : Nat) (0 : Nat), AV.ptr (1 : Nat) (0 : Nat), AV.int IntKind.i64 (0 : Int)]
  [AV.ptr (0 : Nat) (0 : Nat), AV.ptr (1 : Nat) (0 : Nat), AV.int IntKind.i64 (↑(0 : Nat) : Int)]
  [Blk.var
      [AV.str a0, AV.str a1, AV.lst (5 : Nat) (List.map tyC.elem a2) Tl.open_,
        AV.lst (2 : Nat) (List.map tyF.elem a3) Tl.open_, AV.lst (5 : Nat) (List.map tyM.elem a4) Tl.open_],
    Blk.var
      [AV.str b0, AV.str b1, AV.lst (5 : Nat) (List.map tyC.elem b2) Tl.open_,
        AV.lst (2 : Nat) (List.map tyF.elem b3) Tl.open_, AV.lst (5 : Nat) (List.map tyM.elem b4) Tl.open_]]
  [Blk.var
      [AV.str a0, AV.str a1, AV.lst (5 : Nat) (List.map tyC.elem a2) Tl.open_,
        AV.lst (2 : Nat) (List.map tyF.elem a3) Tl.open_, AV.lst (5 : Nat) (List.map tyM.elem a4) Tl.open_],
    Blk.var
      [AV.str b0, AV.str b1, AV.lst (5 : Nat) (List.map tyC.elem b2) Tl.open_,
        AV.lst (2 : Nat) (List.map tyF.elem b3) Tl.open_, AV.lst (5 : Nat) (List.map tyM.elem b4) Tl.open_]])
                (T.leaf (AV.bool false))
                T.fail)
              T.fail)))
        (T.br (!decide ((↑(List.map tyF.elem a3).length : Int) = (↑(List.map tyF.elem b3).length : Int)))
          (T.br true
            (T.leaf (AV.bool false))
            (T.br (askS [AV.ptr (0 : Nat) (0 : Nat), AV.ptr (1 : Nat) (0 : Nat), AV.int IntKind.i64 (0 : Int)]
  [AV.ptr (0 : Nat) (0 : Nat), AV.ptr (1 : Nat) (0 : Nat), AV.int IntKind.i64 (↑(0 : Nat) : Int)]
  [Blk.var
      [AV.str a0, AV.str a1, AV.lst (5 : Nat) (List.map tyC.elem a2) Tl.open_,
        AV.lst (2 : Nat) (List.map tyF.elem a3) Tl.open_, AV.lst (5 : Nat) (List.map tyM.elem a4) Tl.open_],
    Blk.var
      [AV.str b0, AV.str b1, AV.lst (5 : Nat) (List.map tyC.elem b2) Tl.open_,
        AV.lst (2 : Nat) (List.map tyF.elem b3) Tl.open_, AV.lst (5 : Nat) (List.map tyM.elem b4) Tl.open_]]
  [Blk.var
      [AV.str a0, AV.str a1, AV.lst (5 : Nat) (List.map tyC.elem a2) Tl.open_,
        AV.lst (2 : Nat) (List.map tyF.elem a3) Tl.open_, AV.lst (5 : Nat) (List.map tyM.elem a4) Tl.open_],
    Blk.var
      [AV.str b0, AV.str b1, AV.lst (5 : Nat) (List.map tyC.elem b2) Tl.open_,
        AV.lst (2 : Nat) (List.map tyF.elem b3) Tl.open_, AV.lst (5 : Nat) (List.map tyM.elem b4) Tl.open_]])
              (T.br (askS [AV.ptr (0 : Nat) (0 : Nat), AV.ptr (1 : Nat) (0 : Nat), AV.int IntKind.i64 (0 : Int)]
  [AV.ptr (0 : Nat) (0 : Nat), AV.ptr (1 : Nat) (0 : Nat), AV.int IntKind.i64 (↑(0 : Nat) : Int)]
  [Blk.var
      [AV.str a0, AV.str a1, AV.lst (5 : Nat) (List.map tyC.elem a2) Tl.open_,
        AV.lst (2 : Nat) (List.map tyF.elem a3) Tl.open_, AV.lst (5 : Nat) (List.map tyM.elem a4) Tl.open_],
    Blk.var
      [AV.str b0, AV.str b1, AV.lst (5 : Nat) (List.map tyC.elem b2) Tl.open_,
        AV.lst (2 : Nat) (List.map tyF.elem b3) Tl.open_, AV.lst (5 : Nat) (List.map tyM.elem b4) Tl.open_]]
  [Blk.var
      [AV.str a0, AV.str a1, AV.lst (5 : Nat) (List.map tyC.elem a2) Tl.open_,
        AV.lst (2 : Nat) (List.map tyF.elem a3) Tl.open_, AV.lst (5 : Nat) (List.map tyM.elem a4) Tl.open_],
    Blk.var
      [AV.str b0, AV.str b1, AV.lst (5 : Nat) (List.map tyC.elem b2) Tl.open_,
        AV.lst (2 : Nat) (List.map tyF.elem b3) Tl.open_, AV.lst (5 : Nat) (List.map tyM.elem b4) Tl.open_]])
                (T.leaf (AV.bool false))
                T.fail)
              T.fail))
          (T.br (!decide ((↑(List.map tyM.elem a4).length : Int) = (↑(List.map tyM.elem b4).length : Int)))
            (T.leaf (AV.bool false))
            (T.br (askS [AV.ptr (0 : Nat) (0 : Nat), AV.ptr (1 : Nat) (0 : Nat), AV.int IntKind.i64 (0 : Int)]
  [AV.ptr (0 : Nat) (0 : Nat), AV.ptr (1 : Nat) (0 : Nat), AV.int IntKind.i64 (↑(0 : Nat) : Int)]
  [Blk.var
      [AV.str a0, AV.str a1, AV.lst (5 : Nat) (List.map tyC.elem a2) Tl.open_,
        AV.lst (2 : Nat) (List.map tyF.elem a3) Tl.open_, AV.lst (5 : Nat) (List.map tyM.elem a4) Tl.open_],
    Blk.var
      [AV.str b0, AV.str b1, AV.lst (5 : Nat) (List.map tyC.elem b2) Tl.open_,
        AV.lst (2 : Nat) (List.map tyF.elem b3) Tl.open_, AV.lst (5 : Nat) (List.map tyM.elem b4) Tl.open_]]
  [Blk.var
      [AV.str a0, AV.str a1, AV.lst (5 : Nat) (List.map tyC.elem a2) Tl.open_,
        AV.lst (2 : Nat) (List.map tyF.elem a3) Tl.open_, AV.lst (5 : Nat) (List.map tyM.elem a4) Tl.open_],
    Blk.var
      [AV.str b0, AV.str b1, AV.lst (5 : Nat) (List.map tyC.elem b2) Tl.open_,
        AV.lst (2 : Nat) (List.map tyF.elem b3) Tl.open_, AV.lst (5 : Nat) (List.map tyM.elem b4) Tl.open_]])
              (T.br (askS [AV.ptr (0 : Nat) (0 : Nat), AV.ptr (1 : Nat) (0 : Nat), AV.int IntKind.i64 (0 : Int)]
  [AV.ptr (0 : Nat) (0 : Nat), AV.ptr (1 : Nat) (0 : Nat), AV.int IntKind.i64 (↑(0 : Nat) : Int)]
  [Blk.var
      [AV.str a0, AV.str a1, AV.lst (5 : Nat) (List.map tyC.elem a2) Tl.open_,
        AV.lst (2 : Nat) (List.map tyF.elem a3) Tl.open_, AV.lst (5 : Nat) (List.map tyM.elem a4) Tl.open_],
    Blk.var
      [AV.str b0, AV.str b1, AV.lst (5 : Nat) (List.map tyC.elem b2) Tl.open_,
        AV.lst (2 : Nat) (List.map tyF.elem b3) Tl.open_, AV.lst (5 : Nat) (List.map tyM.elem b4) Tl.open_]]
  [Blk.var
      [AV.str a0, AV.str a1, AV.lst (5 : Nat) (List.map tyC.elem a2) Tl.open_,
        AV.lst (2 : Nat) (List.map tyF.elem a3) Tl.open_, AV.lst (5 : Nat) (List.map tyM.elem a4) Tl.open_],
    Blk.var
      [AV.str b0, AV.str b1, AV.lst (5 : Nat) (List.map tyC.elem b2) Tl.open_,
        AV.lst (2 : Nat) (List.map tyF.elem b3) Tl.open_, AV.lst (5 : Nat) (List.map tyM.elem b4) Tl.open_]])
                (T.leaf (AV.bool false))
                T.fail)
              T.fail))))
      (T.br (askQ (clLL (26 : FuncId) tyC).2
  [AV.lst (5 : Nat) (List.map tyC.elem a2) Tl.open_, AV.lst (5 : Nat) (List.map tyC.elem b2) Tl.open_])
        (T.br (!ask
    (AV.lst (5 : Nat) (List.map tyC.elem a2) Tl.open_ = AV.lst (5 : Nat) (List.map tyC.elem b2) Tl.open_))
          (T.br true
            (T.br true
              (T.leaf (AV.bool false))
              (T.br (askS [AV.ptr (0 : Nat) (0 : Nat), AV.ptr (1 : Nat) (0 : Nat), AV.int IntKind.i64 (0 : Int)]
  [AV.ptr (0 : Nat) (0 : Nat), AV.ptr (1 : Nat) (0 : Nat), AV.int IntKind.i64 (↑(0 : Nat) : Int)]
  [Blk.var
      [AV.str a0, AV.str a1, AV.lst (5 : Nat) (List.map tyC.elem a2) Tl.open_,
        AV.lst (2 : Nat) (List.map tyF.elem a3) Tl.open_, AV.lst (5 : Nat) (List.map tyM.elem a4) Tl.open_],
    Blk.var
      [AV.str b0, AV.str b1, AV.lst (5 : Nat) (List.map tyC.elem b2) Tl.open_,
        AV.lst (2 : Nat) (List.map tyF.elem b3) Tl.open_, AV.lst (5 : Nat) (List.map tyM.elem b4) Tl.open_]]
  [Blk.var
      [AV.str a0, AV.str a1, AV.lst (5 : Nat) (List.map tyC.elem a2) Tl.open_,
        AV.lst (2 : Nat) (List.map tyF.elem a3) Tl.open_, AV.lst (5 : Nat) (List.map tyM.elem a4) Tl.open_],
    Blk.var
      [AV.str b0, AV.str b1, AV.lst (5 : Nat) (List.map tyC.elem b2) Tl.open_,
        AV.lst (2 : Nat) (List.map tyF.elem b3) Tl.open_, AV.lst (5 : Nat) (List.map tyM.elem b4) Tl.open_]])
                (T.br (askS [AV.ptr (0 : Nat) (0 : Nat), AV.ptr (1 : Nat) (0 : Nat), AV.int IntKind.i64 (0 : Int)]
  [AV.ptr (0 : Nat) (0 : Nat), AV.ptr (1 : Nat) (0 : Nat), AV.int IntKind.i64 (↑(0 : Nat) : Int)]
  [Blk.var
      [AV.str a0, AV.str a1, AV.lst (5 : Nat) (List.map tyC.elem a2) Tl.open_,
        AV.lst (2 : Nat) (List.map tyF.elem a3) Tl.open_, AV.lst (5 : Nat) (List.map tyM.elem a4) Tl.open_],
    Blk.var
      [AV.str b0, AV.str b1, AV.lst (5 : Nat) (List.map tyC.elem b2) Tl.open_,
        AV.lst (2 : Nat) (List.map tyF.elem b3) Tl.open_, AV.lst (5 : Nat) (List.map tyM.elem b4) Tl.open_]]
  [Blk.var
      [AV.str a0, AV.str a1, AV.lst (5 : Nat) (List.map tyC.elem a2) Tl.open_,
        AV.lst (2 : Nat) (List.map tyF.elem a3) Tl.open_, AV.lst (5 : Nat) (List.map tyM.elem a4) Tl.open_],
    Blk.var
      [AV.str b0, AV.str b1, AV.lst (5 : Nat) (List.map tyC.elem b2) Tl.open_,
        AV.lst (2 : Nat) (List.map tyF.elem b3) Tl.open_, AV.lst (5 : Nat) (List.map tyM.elem b4) Tl.open_]])
                  (T.leaf (AV.bool false))
                  T.fail)
                T.fail))
            (T.br (!decide ((↑(List.map tyM.elem a4).length : Int) = (↑(List.map tyM.elem b4).length : Int)))
              (T.leaf (AV.bool false))
              (T.br (askS [AV.ptr (0 : Nat) (0 : Nat), AV.ptr (1 : Nat) (0 : Nat), AV.int IntKind.i64 (0 : Int)]
  [AV.ptr (0 : Nat) (0 : Nat), AV.ptr (1 : Nat) (0 : Nat), AV.int IntKind.i64 (↑(0 : Nat) : Int)]
  [Blk.var
      [AV.str a0, AV.str a1, AV.lst (5 : Nat) (List.map tyC.elem a2) Tl.open_,
        AV.lst (2 : Nat) (List.map tyF.elem a3) Tl.open_, AV.lst (5 : Nat) (List.map tyM.elem a4) Tl.open_],
    Blk.var
      [AV.str b0, AV.str b1, AV.lst (5 : Nat) (List.map tyC.elem b2) Tl.open_,
        AV.lst (2 : Nat) (List.map tyF.elem b3) Tl.open_, AV.lst (5 : Nat) (List.map tyM.elem b4) Tl.open_]]
  [Blk.var
      [AV.str a0, AV.str a1, AV.lst (5 : Nat) (List.map tyC.elem a2) Tl.open_,
        AV.lst (2 : Nat) (List.map tyF.elem a3) Tl.open_, AV.lst (5 : Nat) (List.map tyM.elem a4) Tl.open_],
    Blk.var
      [AV.str b0, AV.str b1, AV.lst (5 : Nat) (List.map tyC.elem b2) Tl.open_,
        AV.lst (2 : Nat) (List.map tyF.elem b3) Tl.open_, AV.lst (5 : Nat) (List.map tyM.elem b4) Tl.open_]])
                (T.br (askS [AV.ptr (0 : Nat) (0 : Nat), AV.ptr (1 : Nat) (0 : Nat), AV.int IntKind.i64 (0 : Int)]
  [AV.ptr (0 : Nat) (0 : Nat), AV.ptr (1 : Nat) (0 : Nat), AV.int IntKind.i64 (↑(0 : Nat) : Int)]
  [Blk.var
      [AV.str a0, AV.str a1, AV.lst (5 : Nat) (List.map tyC.elem a2) Tl.open_,
        AV.lst (2 : Nat) (List.map tyF.elem a3) Tl.open_, AV.lst (5 : Nat) (List.map tyM.elem a4) Tl.open_],
    Blk.var
      [AV.str b0, AV.str b1, AV.lst (5 : Nat) (List.map tyC.elem b2) Tl.open_,
        AV.lst (2 : Nat) (List.map tyF.elem b3) Tl.open_, AV.lst (5 : Nat) (List.map tyM.elem b4) Tl.open_]]
  [Blk.var
      [AV.str a0, AV.str a1, AV.lst (5 : Nat) (List.map tyC.elem a2) Tl.open_,
        AV.lst (2 : Nat) (List.map tyF.elem a3) Tl.open_, AV.lst (5 : Nat) (List.map tyM.elem a4) Tl.open_],
    Blk.var
      [AV.str b0, AV.str b1, AV.lst (5 : Nat) (List.map tyC.elem b2) Tl.open_,
        AV.lst (2 : Nat) (List.map tyF.elem b3) Tl.open_, AV.lst (5 : Nat) (List.map tyM.elem b4) Tl.open_]])
                  (T.leaf (AV.bool false))
                  T.fail)
                T.fail)))
          (T.br (!decide ((↑(List.map tyF.elem a3).length : Int) = (↑(List.map tyF.elem b3).length : Int)))
            (T.br true
              (T.leaf (AV.bool false))
              (T.br (askS [AV.ptr (0 : Nat) (0 : Nat), AV.ptr (1 : Nat) (0 : Nat), AV.int IntKind.i64 (0 : Int)]
  [AV.ptr (0 : Nat) (0 : Nat), AV.ptr (1 : Nat) (0 : Nat), AV.int IntKind.i64 (↑(0 : Nat) : Int)]
  [Blk.var
      [AV.str a0, AV.str a1, AV.lst (5 : Nat) (List.map tyC.elem a2) Tl.open_,
        AV.lst (2 : Nat) (List.map tyF.elem a3) Tl.open_, AV.lst (5 : Nat) (List.map tyM.elem a4) Tl.open_],
    Blk.var
      [AV.str b0, AV.str b1, AV.lst (5 : Nat) (List.map tyC.elem b2) Tl.open_,
        AV.lst (2 : Nat) (List.map tyF.elem b3) Tl.open_, AV.lst (5 : Nat) (List.map tyM.elem b4) Tl.open_]]
  [Blk.var
      [AV.str a0, AV.str a1, AV.lst (5 : Nat) (List.map tyC.elem a2) Tl.open_,
        AV.lst (2 : Nat) (List.map tyF.elem a3) Tl.open_, AV.lst (5 : Nat) (List.map tyM.elem a4) Tl.open_],
    Blk.var
      [AV.str b0, AV.str b1, AV.lst (5 : Nat) (List.map tyC.elem b2) Tl.open_,
        AV.lst (2 : Nat) (List.map tyF.elem b3) Tl.open_, AV.lst (5 : Nat) (List.map tyM.elem b4) Tl.open_]])
                (T.br (askS [AV.ptr (0 : Nat) (0 : Nat), AV.ptr (1 : Nat) (0 : Nat), AV.int IntKind.i64 (0 : Int)]
  [AV.ptr (0 : Nat) (0 : Nat), AV.ptr (1 : Nat) (0 : Nat), AV.int IntKind.i64 (↑(0 : Nat) : Int)]
  [Blk.var
      [AV.str a0, AV.str a1, AV.lst (5 : Nat) (List.map tyC.elem a2) Tl.open_,
        AV.lst (2 : Nat) (List.map tyF.elem a3) Tl.open_, AV.lst (5 : Nat) (List.map tyM.elem a4) Tl.open_],
    Blk.var
      [AV.str b0, AV.str b1, AV.lst (5 : Nat) (List.map tyC.elem b2) Tl.open_,
        AV.lst (2 : Nat) (List.map tyF.elem b3) Tl.open_, AV.lst (5 : Nat) (List.map tyM.elem b4) Tl.open_]]
  [Blk.var
      [AV.str a0, AV.str a1, AV.lst (5 : Nat) (List.map tyC.elem a2) Tl.open_,
        AV.lst (2 : Nat) (List.map tyF.elem a3) Tl.open_, AV.lst (5 : Nat) (List.map tyM.elem a4) Tl.open_],
    Blk.var
      [AV.str b0, AV.str b1, AV.lst (5 : Nat) (List.map tyC.elem b2) Tl.open_,
        AV.lst (2 : Nat) (List.map tyF.elem b3) Tl.open_, AV.lst (5 : Nat) (List.map tyM.elem b4) Tl.open_]])
                  (T.leaf (AV.bool false))
                  T.fail)
                T.fail))
            (T.br (!decide ((↑(List.map tyM.elem a4).length : Int) = (↑(List.map tyM.elem b4).length : Int)))
              (T.leaf (AV.bool false))
              (T.br (askS [AV.ptr (0 : Nat) (0 : Nat), AV.ptr (1 : Nat) (0 : Nat), AV.int IntKind.i64 (0 : Int)]
  [AV.ptr (0 : Nat) (0 : Nat), AV.ptr (1 : Nat) (0 : Nat), AV.int IntKind.i64 (↑(0 : Nat) : Int)]
  [Blk.var
      [AV.str a0, AV.str a1, AV.lst (5 : Nat) (List.map tyC.elem a2) Tl.open_,
        AV.lst (2 : Nat) (List.map tyF.elem a3) Tl.open_, AV.lst (5 : Nat) (List.map tyM.elem a4) Tl.open_],
    Blk.var
      [AV.str b0, AV.str b1, AV.lst (5 : Nat) (List.map tyC.elem b2) Tl.open_,
        AV.lst (2 : Nat) (List.map tyF.elem b3) Tl.open_, AV.lst (5 : Nat) (List.map tyM.elem b4) Tl.open_]]
  [Blk.var
      [AV.str a0, AV.str a1, AV.lst (5 : Nat) (List.map tyC.elem a2) Tl.open_,
        AV.lst (2 : Nat) (List.map tyF.elem a3) Tl.open_, AV.lst (5 : Nat) (List.map tyM.elem a4) Tl.open_],
    Blk.var
      [AV.str b0, AV.str b1, AV.lst (5 : Nat) (List.map tyC.elem b2) Tl.open_,
        AV.lst (2 : Nat) (List.map tyF.elem b3) Tl.open_, AV.lst (5 : Nat) (List.map tyM.elem b4) Tl.open_]])
                (T.br (askS [AV.ptr (0 : Nat) (0 : Nat), AV.ptr (1 : Nat) (0 : Nat), AV.int IntKind.i64 (0 : Int)]
  [AV.ptr (0 : Nat) (0 : Nat), AV.ptr (1 : Nat) (0 : Nat), AV.int IntKind.i64 (↑(0 : Nat) : Int)]
  [Blk.var
      [AV.str a0, AV.str a1, AV.lst (5 : Nat) (List.map tyC.elem a2) Tl.open_,
        AV.lst (2 : Nat) (List.map tyF.elem a3) Tl.open_, AV.lst (5 : Nat) (List.map tyM.elem a4) Tl.open_],
    Blk.var
      [AV.str b0, AV.str b1, AV.lst (5 : Nat) (List.map tyC.elem b2) Tl.open_,
        AV.lst (2 : Nat) (List.map tyF.elem b3) Tl.open_, AV.lst (5 : Nat) (List.map tyM.elem b4) Tl.open_]]
  [Blk.var
      [AV.str a0, AV.str a1, AV.lst (5 : Nat) (List.map tyC.elem a2) Tl.open_,
        AV.lst (2 : Nat) (List.map tyF.elem a3) Tl.open_, AV.lst (5 : Nat) (List.map tyM.elem a4) Tl.open_],
    Blk.var
      [AV.str b0, AV.str b1, AV.lst (5 : Nat) (List.map tyC.elem b2) Tl.open_,
        AV.lst (2 : Nat) (List.map tyF.elem b3) Tl.open_, AV.lst (5 : Nat) (List.map tyM.elem b4) Tl.open_]])
                  (T.leaf (AV.bool false))
                  T.fail)
                T.fail))))
        T.fail))
    (T.br (!decide (a1 = b1))
      (T.br true
        (T.br true
          (T.br true
            (T.leaf (AV.bool false))
            (T.br (askS [AV.ptr (0 : Nat) (0 : Nat), AV.ptr (1 : Nat) (0 : Nat), AV.int IntKind.i64 (0 : Int)]
  [AV.ptr (0 : Nat) (0 : Nat), AV.ptr (1 : Nat) (0 : Nat), AV.int IntKind.i64 (↑(0 : Nat) : Int)]
  [Blk.var
      [AV.str a0, AV.str a1, AV.lst (5 : Nat) (List.map tyC.elem a2) Tl.open_,
        AV.lst (2 : Nat) (List.map tyF.elem a3) Tl.open_, AV.lst (5 : Nat) (List.map tyM.elem a4) Tl.open_],
    Blk.var
      [AV.str b0, AV.str b1, AV.lst (5 : Nat) (List.map tyC.elem b2) Tl.open_,
        AV.lst (2 : Nat) (List.map tyF.elem b3) Tl.open_, AV.lst (5 : Nat) (List.map tyM.elem b4) Tl.open_]]
  [Blk.var
      [AV.str a0, AV.str a1, AV.lst (5 : Nat) (List.map tyC.elem a2) Tl.open_,
        AV.lst (2 : Nat) (List.map tyF.elem a3) Tl.open_, AV.lst (5 : Nat) (List.map tyM.elem a4) Tl.open_],
    Blk.var
      [AV.str b0, AV.str b1, AV.lst (5 : Nat) (List.map tyC.elem b2) Tl.open_,
        AV.lst (2 : Nat) (List.map tyF.elem b3) Tl.open_, AV.lst (5 : Nat) (List.map tyM.elem b4) Tl.open_]])
              (T.br (askS [AV.ptr (0 : Nat) (0 : Nat), AV.ptr (1 : Nat) (0 : Nat), AV.int IntKind.i64 (0 : Int)]
  [AV.ptr (0 : Nat) (0 : Nat), AV.ptr (1 : Nat) (0 : Nat), AV.int IntKind.i64 (↑(0 : Nat) : Int)]
  [Blk.var
      [AV.str a0, AV.str a1, AV.lst (5 : Nat) (List.map tyC.elem a2) Tl.open_,
        AV.lst (2 : Nat) (List.map tyF.elem a3) Tl.open_, AV.lst (5 : Nat) (List.map tyM.elem a4) Tl.open_],
    Blk.var
      [AV.str b0, AV.str b1, AV.lst (5 : Nat) (List.map tyC.elem b2) Tl.open_,
        AV.lst (2 : Nat) (List.map tyF.elem b3) Tl.open_, AV.lst (5 : Nat) (List.map tyM.elem b4) Tl.open_]]
  [Blk.var
      [AV.str a0, AV.str a1, AV.lst (5 : Nat) (List.map tyC.elem a2) Tl.open_,
        AV.lst (2 : Nat) (List.map tyF.elem a3) Tl.open_, AV.lst (5 : Nat) (List.map tyM.elem a4) Tl.open_],
    Blk.var
      [AV.str b0, AV.str b1, AV.lst (5 : Nat) (List.map tyC.elem b2) Tl.open_,
        AV.lst (2 : Nat) (List.map tyF.elem b3) Tl.open_, AV.lst (5 : Nat) (List.map tyM.elem b4) Tl.open_]])
                (T.leaf (AV.bool false))
                T.fail)
              T.fail))
          (T.br (!decide ((↑(List.map tyM.elem a4).length : Int) = (↑(List.map tyM.elem b4).length : Int)))
            (T.leaf (AV.bool false))
            (T.br (askS [AV.ptr (0 : Nat) (0 : Nat), AV.ptr (1 : Nat) (0 : Nat), AV.int IntKind.i64 (0 : Int)]
  [AV.ptr (0 : Nat) (0 : Nat), AV.ptr (1 : Nat) (0 : Nat), AV.int IntKind.i64 (↑(0 : Nat) : Int)]
  [Blk.var
      [AV.str a0, AV.str a1, AV.lst (5 : Nat) (List.map tyC.elem a2) Tl.open_,
        AV.lst (2 : Nat) (List.map tyF.elem a3) Tl.open_, AV.lst (5 : Nat) (List.map tyM.elem a4) Tl.open_],
    Blk.var
      [AV.str b0, AV.str b1, AV.lst (5 : Nat) (List.map tyC.elem b2) Tl.open_,
        AV.lst (2 : Nat) (List.map tyF.elem b3) Tl.open_, AV.lst (5 : Nat) (List.map tyM.elem b4) Tl.open_]]
  [Blk.var
      [AV.str a0, AV.str a1, AV.lst (5 : Nat) (List.map tyC.elem a2) Tl.open_,
        AV.lst (2 : Nat) (List.map tyF.elem a3) Tl.open_, AV.lst (5 : Nat) (List.map tyM.elem a4) Tl.open_],
    Blk.var
      [AV.str b0, AV.str b1, AV.lst (5 : Nat) (List.map tyC.elem b2) Tl.open_,
        AV.lst (2 : Nat) (List.map tyF.elem b3) Tl.open_, AV.lst (5 : Nat) (List.map tyM.elem b4) Tl.open_]])
              (T.br (askS [AV.ptr (0 : Nat) (0 : Nat), AV.ptr (1 : Nat) (0 : Nat), AV.int IntKind.i64 (0 : Int)]
  [AV.ptr (0 : Nat) (0 : Nat), AV.ptr (1 : Nat) (0 : Nat), AV.int IntKind.i64 (↑(0 : Nat) : Int)]
  [Blk.var
      [AV.str a0, AV.str a1, AV.lst (5 : Nat) (List.map tyC.elem a2) Tl.open_,
        AV.lst (2 : Nat) (List.map tyF.elem a3) Tl.open_, AV.lst (5 : Nat) (List.map tyM.elem a4) Tl.open_],
    Blk.var
      [AV.str b0, AV.str b1, AV.lst (5 : Nat) (List.map tyC.elem b2) Tl.open_,
        AV.lst (2 : Nat) (List.map tyF.elem b3) Tl.open_, AV.lst (5 : Nat) (List.map tyM.elem b4) Tl.open_]]
  [Blk.var
      [AV.str a0, AV.str a1, AV.lst (5 : Nat) (List.map tyC.elem a2) Tl.open_,
        AV.lst (2 : Nat) (List.map tyF.elem a3) Tl.open_, AV.lst (5 : Nat) (List.map tyM.elem a4) Tl.open_],
    Blk.var
      [AV.str b0, AV.str b1, AV.lst (5 : Nat) (List.map tyC.elem b2) Tl.open_,
        AV.lst (2 : Nat) (List.map tyF.elem b3) Tl.open_, AV.lst (5 : Nat) (List.map tyM.elem b4) Tl.open_]])
                (T.leaf (AV.bool false))
                T.fail)
              T.fail)))
        (T.br (!decide ((↑(List.map tyF.elem a3).length : Int) = (↑(List.map tyF.elem b3).length : Int)))
          (T.br true
            (T.leaf (AV.bool false))
            (T.br (askS [AV.ptr (0 : Nat) (0 : Nat), AV.ptr (1 : Nat) (0 : Nat), AV.int IntKind.i64 (0 : Int)]
  [AV.ptr (0 : Nat) (0 : Nat), AV.ptr (1 : Nat) (0 : Nat), AV.int IntKind.i64 (↑(0 : Nat) : Int)]
  [Blk.var
      [AV.str a0, AV.str a1, AV.lst (5 : Nat) (List.map tyC.elem a2) Tl.open_,
        AV.lst (2 : Nat) (List.map tyF.elem a3) Tl.open_, AV.lst (5 : Nat) (List.map tyM.elem a4) Tl.open_],
    Blk.var
      [AV.str b0, AV.str b1, AV.lst (5 : Nat) (List.map tyC.elem b2) Tl.open_,
        AV.lst (2 : Nat) (List.map tyF.elem b3) Tl.open_, AV.lst (5 : Nat) (List.map tyM.elem b4) Tl.open_]]
  [Blk.var
      [AV.str a0, AV.str a1, AV.lst (5 : Nat) (List.map tyC.elem a2) Tl.open_,
        AV.lst (2 : Nat) (List.map tyF.elem a3) Tl.open_, AV.lst (5 : Nat) (List.map tyM.elem a4) Tl.open_],
    Blk.var
      [AV.str b0, AV.str b1, AV.lst (5 : Nat) (List.map tyC.elem b2) Tl.open_,
        AV.lst (2 : Nat) (List.map tyF.elem b3) Tl.open_, AV.lst (5 : Nat) (List.map tyM.elem b4) Tl.open_]])
              (T.br (askS [AV.ptr (0 : Nat) (0 : Nat), AV.ptr (1 : Nat) (0 : Nat), AV.int IntKind.i64 (0 : Int)]
  [AV.ptr (0 : Nat) (0 : Nat), AV.ptr (1 : Nat) (0 : Nat), AV.int IntKind.i64 (↑(0 : Nat) : Int)]
  [Blk.var
      [AV.str a0, AV.str a1, AV.lst (5 : Nat) (List.map tyC.elem a2) Tl.open_,
        AV.lst (2 : Nat) (List.map tyF.elem a3) Tl.open_, AV.lst (5 : Nat) (List.map tyM.elem a4) Tl.open_],
    Blk.var
      [AV.str b0, AV.str b1, AV.lst (5 : Nat) (List.map tyC.elem b2) Tl.open_,
        AV.lst (2 : Nat) (List.map tyF.elem b3) Tl.open_, AV.lst (5 : Nat) (List.map tyM.elem b4) Tl.open_]]
  [Blk.var
      [AV.str a0, AV.str a1, AV.lst (5 : Nat) (List.map tyC.elem a2) Tl.open_,
        AV.lst (2 : Nat) (List.map tyF.elem a3) Tl.open_, AV.lst (5 : Nat) (List.map tyM.elem a4) Tl.open_],
    Blk.var
      [AV.str b0, AV.str b1, AV.lst (5 : Nat) (List.map tyC.elem b2) Tl.open_,
        AV.lst (2 : Nat) (List.map tyF.elem b3) Tl.open_, AV.lst (5 : Nat) (List.map tyM.elem b4) Tl.open_]])
                (T.leaf (AV.bool false))
                T.fail)
              T.fail))
          (T.br (!decide ((↑(List.map tyM.elem a4).length : Int) = (↑(List.map tyM.elem b4).length : Int)))
            (T.leaf (AV.bool false))
            (T.br (askS [AV.ptr (0 : Nat) (0 : Nat), AV.ptr (1 : Nat) (0 : Nat), AV.int IntKind.i64 (0 : Int)]
  [AV.ptr (0 : Nat) (0 : Nat), AV.ptr (1 : Nat) (0 : Nat), AV.int IntKind.i64 (↑(0 : Nat) : Int)]
  [Blk.var
      [AV.str a0, AV.str a1, AV.lst (5 : Nat) (List.map tyC.elem a2) Tl.open_,
        AV.lst (2 : Nat) (List.map tyF.elem a3) Tl.open_, AV.lst (5 : Nat) (List.map tyM.elem a4) Tl.open_],
    Blk.var
      [AV.str b0, AV.str b1, AV.lst (5 : Nat) (List.map tyC.elem b2) Tl.open_,
        AV.lst (2 : Nat) (List.map tyF.elem b3) Tl.open_, AV.lst (5 : Nat) (List.map tyM.elem b4) Tl.open_]]
  [Blk.var
      [AV.str a0, AV.str a1, AV.lst (5 : Nat) (List.map tyC.elem a2) Tl.open_,
        AV.lst (2 : Nat) (List.map tyF.elem a3) Tl.open_, AV.lst (5 : Nat) (List.map tyM.elem a4) Tl.open_],
    Blk.var
      [AV.str b0, AV.str b1, AV.lst (5 : Nat) (List.map tyC.elem b2) Tl.open_,
        AV.lst (2 : Nat) (List.map tyF.elem b3) Tl.open_, AV.lst (5 : Nat) (List.map tyM.elem b4) Tl.open_]])
              (T.br (askS [AV.ptr (0 : Nat) (0 : Nat), AV.ptr (1 : Nat) (0 : Nat), AV.int IntKind.i64 (0 : Int)]
  [AV.ptr (0 : Nat) (0 : Nat), AV.ptr (1 : Nat) (0 : Nat), AV.int IntKind.i64 (↑(0 : Nat) : Int)]
  [Blk.var
      [AV.str a0, AV.str a1, AV.lst (5 : Nat) (List.map tyC.elem a2) Tl.open_,
        AV.lst (2 : Nat) (List.map tyF.elem a3) Tl.open_, AV.lst (5 : Nat) (List.map tyM.elem a4) Tl.open_],
    Blk.var
      [AV.str b0, AV.str b1, AV.lst (5 : Nat) (List.map tyC.elem b2) Tl.open_,
        AV.lst (2 : Nat) (List.map tyF.elem b3) Tl.open_, AV.lst (5 : Nat) (List.map tyM.elem b4) Tl.open_]]
  [Blk.var
      [AV.str a0, AV.str a1, AV.lst (5 : Nat) (List.map tyC.elem a2) Tl.open_,
        AV.lst (2 : Nat) (List.map tyF.elem a3) Tl.open_, AV.lst (5 : Nat) (List.map tyM.elem a4) Tl.open_],
    Blk.var
      [AV.str b0, AV.str b1, AV.lst (5 : Nat) (List.map tyC.elem b2) Tl.open_,
        AV.lst (2 : Nat) (List.map tyF.elem b3) Tl.open_, AV.lst (5 : Nat) (List.map tyM.elem b4) Tl.open_]])
                (T.leaf (AV.bool false))
                T.fail)
              T.fail))))
      (T.br (askQ (clLL (26 : FuncId) tyC).2
  [AV.lst (5 : Nat) (List.map tyC.elem a2) Tl.open_, AV.lst (5 : Nat) (List.map tyC.elem b2) Tl.open_])
        (T.br (!ask
    (AV.lst (5 : Nat) (List.map tyC.elem a2) Tl.open_ = AV.lst (5 : Nat) (List.map tyC.elem b2) Tl.open_))
          (T.br true
            (T.br true
              (T.leaf (AV.bool false))
              (T.br (askS [AV.ptr (0 : Nat) (0 : Nat), AV.ptr (1 : Nat) (0 : Nat), AV.int IntKind.i64 (0 : Int)]
  [AV.ptr (0 : Nat) (0 : Nat), AV.ptr (1 : Nat) (0 : Nat), AV.int IntKind.i64 (↑(0 : Nat) : Int)]
  [Blk.var
      [AV.str a0, AV.str a1, AV.lst (5 : Nat) (List.map tyC.elem a2) Tl.open_,
        AV.lst (2 : Nat) (List.map tyF.elem a3) Tl.open_, AV.lst (5 : Nat) (List.map tyM.elem a4) Tl.open_],
    Blk.var
      [AV.str b0, AV.str b1, AV.lst (5 : Nat) (List.map tyC.elem b2) Tl.open_,
        AV.lst (2 : Nat) (List.map tyF.elem b3) Tl.open_, AV.lst (5 : Nat) (List.map tyM.elem b4) Tl.open_]]
  [Blk.var
      [AV.str a0, AV.str a1, AV.lst (5 : Nat) (List.map tyC.elem a2) Tl.open_,
        AV.lst (2 : Nat) (List.map tyF.elem a3) Tl.open_, AV.lst (5 : Nat) (List.map tyM.elem a4) Tl.open_],
    Blk.var
      [AV.str b0, AV.str b1, AV.lst (5 : Nat) (List.map tyC.elem b2) Tl.open_,
        AV.lst (2 : Nat) (List.map tyF.elem b3) Tl.open_, AV.lst (5 : Nat) (List.map tyM.elem b4) Tl.open_]])
                (T.br (askS [AV.ptr (0 : Nat) (0 : Nat), AV.ptr (1 : Nat) (0 : Nat), AV.int IntKind.i64 (0 : Int)]
  [AV.ptr (0 : Nat) (0 : Nat), AV.ptr (1 : Nat) (0 : Nat), AV.int IntKind.i64 (↑(0 : Nat) : Int)]
  [Blk.var
      [AV.str a0, AV.str a1, AV.lst (5 : Nat) (List.map tyC.elem a2) Tl.open_,
        AV.lst (2 : Nat) (List.map tyF.elem a3) Tl.open_, AV.lst (5 : Nat) (List.map tyM.elem a4) Tl.open_],
    Blk.var
      [AV.str b0, AV.str b1, AV.lst (5 : Nat) (List.map tyC.elem b2) Tl.open_,
        AV.lst (2 : Nat) (List.map tyF.elem b3) Tl.open_, AV.lst (5 : Nat) (List.map tyM.elem b4) Tl.open_]]
  [Blk.var
      [AV.str a0, AV.str a1, AV.lst (5 : Nat) (List.map tyC.elem a2) Tl.open_,
        AV.lst (2 : Nat) (List.map tyF.elem a3) Tl.open_, AV.lst (5 : Nat) (List.map tyM.elem a4) Tl.open_],
    Blk.var
      [AV.str b0, AV.str b1, AV.lst (5 : Nat) (List.map tyC.elem b2) Tl.open_,
        AV.lst (2 : Nat) (List.map tyF.elem b3) Tl.open_, AV.lst (5 : Nat) (List.map tyM.elem b4) Tl.open_]])
                  (T.leaf (AV.bool false))
                  T.fail)
                T.fail))
            (T.br (!decide ((↑(List.map tyM.elem a4).length : Int) = (↑(List.map tyM.elem b4).length : Int)))
              (T.leaf (AV.bool false))
              (T.br (askS [AV.ptr (0 : Nat) (0 : Nat), AV.ptr (1 : Nat) (0 : Nat), AV.int IntKind.i64 (0 : Int)]
  [AV.ptr (0 : Nat) (0 : Nat), AV.ptr (1 : Nat) (0 : Nat), AV.int IntKind.i64 (↑(0 : Nat) : Int)]
  [Blk.var
      [AV.str a0, AV.str a1, AV.lst (5 : Nat) (List.map tyC.elem a2) Tl.open_,
        AV.lst (2 : Nat) (List.map tyF.elem a3) Tl.open_, AV.lst (5 : Nat) (List.map tyM.elem a4) Tl.open_],
    Blk.var
      [AV.str b0, AV.str b1, AV.lst (5 : Nat) (List.map tyC.elem b2) Tl.open_,
        AV.lst (2 : Nat) (List.map tyF.elem b3) Tl.open_, AV.lst (5 : Nat) (List.map tyM.elem b4) Tl.open_]]
  [Blk.var
      [AV.str a0, AV.str a1, AV.lst (5 : Nat) (List.map tyC.elem a2) Tl.open_,
        AV.lst (2 : Nat) (List.map tyF.elem a3) Tl.open_, AV.lst (5 : Nat) (List.map tyM.elem a4) Tl.open_],
    Blk.var
      [AV.str b0, AV.str b1, AV.lst (5 : Nat) (List.map tyC.elem b2) Tl.open_,
        AV.lst (2 : Nat) (List.map tyF.elem b3) Tl.open_, AV.lst (5 : Nat) (List.map tyM.elem b4) Tl.open_]])
                (T.br (askS [AV.ptr (0 : Nat) (0 : Nat), AV.ptr (1 : Nat) (0 : Nat), AV.int IntKind.i64 (0 : Int)]
  [AV.ptr (0 : Nat) (0 : Nat), AV.ptr (1 : Nat) (0 : Nat), AV.int IntKind.i64 (↑(0 : Nat) : Int)]
  [Blk.var
      [AV.str a0, AV.str a1, AV.lst (5 : Nat) (List.map tyC.elem a2) Tl.open_,
        AV.lst (2 : Nat) (List.map tyF.elem a3) Tl.open_, AV.lst (5 : Nat) (List.map tyM.elem a4) Tl.open_],
    Blk.var
      [AV.str b0, AV.str b1, AV.lst (5 : Nat) (List.map tyC.elem b2) Tl.open_,
        AV.lst (2 : Nat) (List.map tyF.elem b3) Tl.open_, AV.lst (5 : Nat) (List.map tyM.elem b4) Tl.open_]]
  [Blk.var
      [AV.str a0, AV.str a1, AV.lst (5 : Nat) (List.map tyC.elem a2) Tl.open_,
        AV.lst (2 : Nat) (List.map tyF.elem a3) Tl.open_, AV.lst (5 : Nat) (List.map tyM.elem a4) Tl.open_],
    Blk.var
      [AV.str b0, AV.str b1, AV.lst (5 : Nat) (List.map tyC.elem b2) Tl.open_,
        AV.lst (2 : Nat) (List.map tyF.elem b3) Tl.open_, AV.lst (5 : Nat) (List.map tyM.elem b4) Tl.open_]])
                  (T.leaf (AV.bool false))
                  T.fail)
                T.fail)))
          (T.br (!decide ((↑(List.map tyF.elem a3).length : Int) = (↑(List.map tyF.elem b3).length : Int)))
            (T.br true
              (T.leaf (AV.bool false))
              (T.br (askS [AV.ptr (0 : Nat) (0 : Nat), AV.ptr (1 : Nat) (0 : Nat), AV.int IntKind.i64 (0 : Int)]
  [AV.ptr (0 : Nat) (0 : Nat), AV.ptr (1 : Nat) (0 : Nat), AV.int IntKind.i64 (↑(0 : Nat) : Int)]
  [Blk.var
      [AV.str a0, AV.str a1, AV.lst (5 : Nat) (List.map tyC.elem a2) Tl.open_,
        AV.lst (2 : Nat) (List.map tyF.elem a3) Tl.open_, AV.lst (5 : Nat) (List.map tyM.elem a4) Tl.open_],
    Blk.var
      [AV.str b0, AV.str b1, AV.lst (5 : Nat) (List.map tyC.elem b2) Tl.open_,
        AV.lst (2 : Nat) (List.map tyF.elem b3) Tl.open_, AV.lst (5 : Nat) (List.map tyM.elem b4) Tl.open_]]
  [Blk.var
      [AV.str a0, AV.str a1, AV.lst (5 : Nat) (List.map tyC.elem a2) Tl.open_,
        AV.lst (2 : Nat) (List.map tyF.elem a3) Tl.open_, AV.lst (5 : Nat) (List.map tyM.elem a4) Tl.open_],
    Blk.var
      [AV.str b0, AV.str b1, AV.lst (5 : Nat) (List.map tyC.elem b2) Tl.open_,
        AV.lst (2 : Nat) (List.map tyF.elem b3) Tl.open_, AV.lst (5 : Nat) (List.map tyM.elem b4) Tl.open_]])
                (T.br (askS [AV.ptr (0 : Nat) (0 : Nat), AV.ptr (1 : Nat) (0 : Nat), AV.int IntKind.i64 (0 : Int)]
  [AV.ptr (0 : Nat) (0 : Nat), AV.ptr (1 : Nat) (0 : Nat), AV.int IntKind.i64 (↑(0 : Nat) : Int)]
  [Blk.var
      [AV.str a0, AV.str a1, AV.lst (5 : Nat) (List.map tyC.elem a2) Tl.open_,
        AV.lst (2 : Nat) (List.map tyF.elem a3) Tl.open_, AV.lst (5 : Nat) (List.map tyM.elem a4) Tl.open_],
    Blk.var
      [AV.str b0, AV.str b1, AV.lst (5 : Nat) (List.map tyC.elem b2) Tl.open_,
        AV.lst (2 : Nat) (List.map tyF.elem b3) Tl.open_, AV.lst (5 : Nat) (List.map tyM.elem b4) Tl.open_]]
  [Blk.var
      [AV.str a0, AV.str a1, AV.lst (5 : Nat) (List.map tyC.elem a2) Tl.open_,
        AV.lst (2 : Nat) (List.map tyF.elem a3) Tl.open_, AV.lst (5 : Nat) (List.map tyM.elem a4) Tl.open_],
    Blk.var
      [AV.str b0, AV.str b1, AV.lst (5 : Nat) (List.map tyC.elem b2) Tl.open_,
        AV.lst (2 : Nat) (List.map tyF.elem b3) Tl.open_, AV.lst (5 : Nat) (List.map tyM.elem b4) Tl.open_]])
                  (T.leaf (AV.bool false))
                  T.fail)
                T.fail))
            (T.br (!decide ((↑(List.map tyM.elem a4).length : Int) = (↑(List.map tyM.elem b4).length : Int)))
              (T.leaf (AV.bool false))
              (T.br (askS [AV.ptr (0 : Nat) (0 : Nat), AV.ptr (1 : Nat) (0 : Nat), AV.int IntKind.i64 (0 : Int)]
  [AV.ptr (0 : Nat) (0 : Nat), AV.ptr (1 : Nat) (0 : Nat), AV.int IntKind.i64 (↑(0 : Nat) : Int)]
  [Blk.var
      [AV.str a0, AV.str a1, AV.lst (5 : Nat) (List.map tyC.elem a2) Tl.open_,
        AV.lst (2 : Nat) (List.map tyF.elem a3) Tl.open_, AV.lst (5 : Nat) (List.map tyM.elem a4) Tl.open_],
    Blk.var
      [AV.str b0, AV.str b1, AV.lst (5 : Nat) (List.map tyC.elem b2) Tl.open_,
        AV.lst (2 : Nat) (List.map tyF.elem b3) Tl.open_, AV.lst (5 : Nat) (List.map tyM.elem b4) Tl.open_]]
  [Blk.var
      [AV.str a0, AV.str a1, AV.lst (5 : Nat) (List.map tyC.elem a2) Tl.open_,
        AV.lst (2 : Nat) (List.map tyF.elem a3) Tl.open_, AV.lst (5 : Nat) (List.map tyM.elem a4) Tl.open_],
    Blk.var
      [AV.str b0, AV.str b1, AV.lst (5 : Nat) (List.map tyC.elem b2) Tl.open_,
        AV.lst (2 : Nat) (List.map tyF.elem b3) Tl.open_, AV.lst (5 : Nat) (List.map tyM.elem b4) Tl.open_]])
                (T.br (askS [AV.ptr (0 : Nat) (0 : Nat), AV.ptr (1 : Nat) (0 : Nat), AV.int IntKind.i64 (0 : Int)]
  [AV.ptr (0 : Nat) (0 : Nat), AV.ptr (1 : Nat) (0 : Nat), AV.int IntKind.i64 (↑(0 : Nat) : Int)]
  [Blk.var
      [AV.str a0, AV.str a1, AV.lst (5 : Nat) (List.map tyC.elem a2) Tl.open_,
        AV.lst (2 : Nat) (List.map tyF.elem a3) Tl.open_, AV.lst (5 : Nat) (List.map tyM.elem a4) Tl.open_],
    Blk.var
      [AV.str b0, AV.str b1, AV.lst (5 : Nat) (List.map tyC.elem b2) Tl.open_,
        AV.lst (2 : Nat) (List.map tyF.elem b3) Tl.open_, AV.lst (5 : Nat) (List.map tyM.elem b4) Tl.open_]]
  [Blk.var
      [AV.str a0, AV.str a1, AV.lst (5 : Nat) (List.map tyC.elem a2) Tl.open_,
        AV.lst (2 : Nat) (List.map tyF.elem a3) Tl.open_, AV.lst (5 : Nat) (List.map tyM.elem a4) Tl.open_],
    Blk.var
      [AV.str b0, AV.str b1, AV.lst (5 : Nat) (List.map tyC.elem b2) Tl.open_,
        AV.lst (2 : Nat) (List.map tyF.elem b3) Tl.open_, AV.lst (5 : Nat) (List.map tyM.elem b4) Tl.open_]])
                  (T.leaf (AV.bool false))
                  T.fail)
                T.fail))))
        T.fail))) := by kernel_rfl
theorem p11r (a0 a1 : ByteArray) (a2 : List tyC.I) (a3 : List tyF.I) (a4 : List tyM.I) (b0 b1 : ByteArray) (b2 : List tyC.I) (b3 : List tyF.I) (b4 : List tyM.I) : runV (XC 25 [12,19,27,36,44,49,62,67,81] [clLL 26 tyC, clEE 51 tyM]) (kTwo (kAt [1,1,0,1] (st11a 0) [.var [.str a0, .str a1, encL tyC a2, encL tyF a3, encL tyM a4], .var [.str b0, .str b1, encL tyC b2, encL tyF b3, encL tyM b4]] .ret [(4, .bool false)] [.var [.str a0, .str a1, encL tyC a2, encL tyF a3, encL tyM a4], .var [.str b0, .str b1, encL tyC b2, encL tyF b3, encL tyM b4]]) (kNo [1,1,1,0,1])) Tryz.f25 (bodyOf Tryz.f25) [.agg [.str a0, .str a1, encL tyC a2, encL tyF a3, encL tyM a4], .agg [.str b0, .str b1, encL tyC b2, encL tyF b3, encL tyM b4]] =
  (T.br (!decide (a0 = b0))
    (T.br true
      (T.br true
        (T.br true
          (T.br true
            (T.leaf (AV.bool false))
            (T.br (askS [AV.ptr (0 : Nat) (0 : Nat), AV.ptr (1 : Nat) (0 : Nat), AV.int IntKind.i64 (0 : Int)]
  [AV.ptr (0 : Nat) (0 : Nat), AV.ptr (1 : Nat) (0 : Nat), AV.int IntKind.i64 (↑(0 : Nat) : Int)]
  [Blk.var
      [AV.str a0, AV.str a1, AV.lst (5 : Nat) (List.map tyC.elem a2) Tl.open_,
        AV.lst (2 : Nat) (List.map tyF.elem a3) Tl.open_, AV.lst (5 : Nat) (List.map tyM.elem a4) Tl.open_],
    Blk.var
      [AV.str b0, AV.str b1, AV.lst (5 : Nat) (List.map tyC.elem b2) Tl.open_,
        AV.lst (2 : Nat) (List.map tyF.elem b3) Tl.open_, AV.lst (5 : Nat) (List.map tyM.elem b4) Tl.open_]]
  [Blk.var
      [AV.str a0, AV.str a1, AV.lst (5 : Nat) (List.map tyC.elem a2) Tl.open_,
        AV.lst (2 : Nat) (List.map tyF.elem a3) Tl.open_, AV.lst (5 : Nat) (List.map tyM.elem a4) Tl.open_],
    Blk.var
      [AV.str b0, AV.str b1, AV.lst (5 : Nat) (List.map tyC.elem b2) Tl.open_,
        AV.lst (2 : Nat) (List.map tyF.elem b3) Tl.open_, AV.lst (5 : Nat) (List.map tyM.elem b4) Tl.open_]])
              (T.leaf (AV.bool false))
              T.fail))
          (T.br (!decide ((↑(List.map tyM.elem a4).length : Int) = (↑(List.map tyM.elem b4).length : Int)))
            (T.leaf (AV.bool false))
            (T.br (askS [AV.ptr (0 : Nat) (0 : Nat), AV.ptr (1 : Nat) (0 : Nat), AV.int IntKind.i64 (0 : Int)]
  [AV.ptr (0 : Nat) (0 : Nat), AV.ptr (1 : Nat) (0 : Nat), AV.int IntKind.i64 (↑(0 : Nat) : Int)]
  [Blk.var
      [AV.str a0, AV.str a1, AV.lst (5 : Nat) (List.map tyC.elem a2) Tl.open_,
        AV.lst (2 : Nat) (List.map tyF.elem a3) Tl.open_, AV.lst (5 : Nat) (List.map tyM.elem a4) Tl.open_],
    Blk.var
      [AV.str b0, AV.str b1, AV.lst (5 : Nat) (List.map tyC.elem b2) Tl.open_,
        AV.lst (2 : Nat) (List.map tyF.elem b3) Tl.open_, AV.lst (5 : Nat) (List.map tyM.elem b4) Tl.open_]]
  [Blk.var
      [AV.str a0, AV.str a1, AV.lst (5 : Nat) (List.map tyC.elem a2) Tl.open_,
        AV.lst (2 : Nat) (List.map tyF.elem a3) Tl.open_, AV.lst (5 : Nat) (List.map tyM.elem a4) Tl.open_],
    Blk.var
      [AV.str b0, AV.str b1, AV.lst (5 : Nat) (List.map tyC.elem b2) Tl.open_,
        AV.lst (2 : Nat) (List.map tyF.elem b3) Tl.open_, AV.lst (5 : Nat) (List.map tyM.elem b4) Tl.open_]])
              (T.leaf (AV.bool false))
              T.fail)))
        (T.br (!decide ((↑(List.map tyF.elem a3).length : Int) = (↑(List.map tyF.elem b3).length : Int)))
          (T.br true
            (T.leaf (AV.bool false))
            (T.br (askS [AV.ptr (0 : Nat) (0 : Nat), AV.ptr (1 : Nat) (0 : Nat), AV.int IntKind.i64 (0 : Int)]
  [AV.ptr (0 : Nat) (0 : Nat), AV.ptr (1 : Nat) (0 : Nat), AV.int IntKind.i64 (↑(0 : Nat) : Int)]
  [Blk.var
      [AV.str a0, AV.str a1, AV.lst (5 : Nat) (List.map tyC.elem a2) Tl.open_,
        AV.lst (2 : Nat) (List.map tyF.elem a3) Tl.open_, AV.lst (5 : Nat) (List.map tyM.elem a4) Tl.open_],
    Blk.var
      [AV.str b0, AV.str b1, AV.lst (5 : Nat) (List.map tyC.elem b2) Tl.open_,
        AV.lst (2 : Nat) (List.map tyF.elem b3) Tl.open_, AV.lst (5 : Nat) (List.map tyM.elem b4) Tl.open_]]
  [Blk.var
      [AV.str a0, AV.str a1, AV.lst (5 : Nat) (List.map tyC.elem a2) Tl.open_,
        AV.lst (2 : Nat) (List.map tyF.elem a3) Tl.open_, AV.lst (5 : Nat) (List.map tyM.elem a4) Tl.open_],
    Blk.var
      [AV.str b0, AV.str b1, AV.lst (5 : Nat) (List.map tyC.elem b2) Tl.open_,
        AV.lst (2 : Nat) (List.map tyF.elem b3) Tl.open_, AV.lst (5 : Nat) (List.map tyM.elem b4) Tl.open_]])
              (T.leaf (AV.bool false))
              T.fail))
          (T.br (!decide ((↑(List.map tyM.elem a4).length : Int) = (↑(List.map tyM.elem b4).length : Int)))
            (T.leaf (AV.bool false))
            (T.br (askS [AV.ptr (0 : Nat) (0 : Nat), AV.ptr (1 : Nat) (0 : Nat), AV.int IntKind.i64 (0 : Int)]
  [AV.ptr (0 : Nat) (0 : Nat), AV.ptr (1 : Nat) (0 : Nat), AV.int IntKind.i64 (↑(0 : Nat) : Int)]
  [Blk.var
      [AV.str a0, AV.str a1, AV.lst (5 : Nat) (List.map tyC.elem a2) Tl.open_,
        AV.lst (2 : Nat) (List.map tyF.elem a3) Tl.open_, AV.lst (5 : Nat) (List.map tyM.elem a4) Tl.open_],
    Blk.var
      [AV.str b0, AV.str b1, AV.lst (5 : Nat) (List.map tyC.elem b2) Tl.open_,
        AV.lst (2 : Nat) (List.map tyF.elem b3) Tl.open_, AV.lst (5 : Nat) (List.map tyM.elem b4) Tl.open_]]
  [Blk.var
      [AV.str a0, AV.str a1, AV.lst (5 : Nat) (List.map tyC.elem a2) Tl.open_,
        AV.lst (2 : Nat) (List.map tyF.elem a3) Tl.open_, AV.lst (5 : Nat) (List.map tyM.elem a4) Tl.open_],
    Blk.var
      [AV.str b0, AV.str b1, AV.lst (5 : Nat) (List.map tyC.elem b2) Tl.open_,
        AV.lst (2 : Nat) (List.map tyF.elem b3) Tl.open_, AV.lst (5 : Nat) (List.map tyM.elem b4) Tl.open_]])
              (T.leaf (AV.bool false))
              T.fail))))
      (T.br (askQ (clLL (26 : FuncId) tyC).2
  [AV.lst (5 : Nat) (List.map tyC.elem a2) Tl.open_, AV.lst (5 : Nat) (List.map tyC.elem b2) Tl.open_])
        (T.br (!ask
    (AV.lst (5 : Nat) (List.map tyC.elem a2) Tl.open_ = AV.lst (5 : Nat) (List.map tyC.elem b2) Tl.open_))
          (T.br true
            (T.br true
              (T.leaf (AV.bool false))
              (T.br (askS [AV.ptr (0 : Nat) (0 : Nat), AV.ptr (1 : Nat) (0 : Nat), AV.int IntKind.i64 (0 : Int)]
  [AV.ptr (0 : Nat) (0 : Nat), AV.ptr (1 : Nat) (0 : Nat), AV.int IntKind.i64 (↑(0 : Nat) : Int)]
  [Blk.var
      [AV.str a0, AV.str a1, AV.lst (5 : Nat) (List.map tyC.elem a2) Tl.open_,
        AV.lst (2 : Nat) (List.map tyF.elem a3) Tl.open_, AV.lst (5 : Nat) (List.map tyM.elem a4) Tl.open_],
    Blk.var
      [AV.str b0, AV.str b1, AV.lst (5 : Nat) (List.map tyC.elem b2) Tl.open_,
        AV.lst (2 : Nat) (List.map tyF.elem b3) Tl.open_, AV.lst (5 : Nat) (List.map tyM.elem b4) Tl.open_]]
  [Blk.var
      [AV.str a0, AV.str a1, AV.lst (5 : Nat) (List.map tyC.elem a2) Tl.open_,
        AV.lst (2 : Nat) (List.map tyF.elem a3) Tl.open_, AV.lst (5 : Nat) (List.map tyM.elem a4) Tl.open_],
    Blk.var
      [AV.str b0, AV.str b1, AV.lst (5 : Nat) (List.map tyC.elem b2) Tl.open_,
        AV.lst (2 : Nat) (List.map tyF.elem b3) Tl.open_, AV.lst (5 : Nat) (List.map tyM.elem b4) Tl.open_]])
                (T.leaf (AV.bool false))
                T.fail))
            (T.br (!decide ((↑(List.map tyM.elem a4).length : Int) = (↑(List.map tyM.elem b4).length : Int)))
              (T.leaf (AV.bool false))
              (T.br (askS [AV.ptr (0 : Nat) (0 : Nat), AV.ptr (1 : Nat) (0 : Nat), AV.int IntKind.i64 (0 : Int)]
  [AV.ptr (0 : Nat) (0 : Nat), AV.ptr (1 : Nat) (0 : Nat), AV.int IntKind.i64 (↑(0 : Nat) : Int)]
  [Blk.var
      [AV.str a0, AV.str a1, AV.lst (5 : Nat) (List.map tyC.elem a2) Tl.open_,
        AV.lst (2 : Nat) (List.map tyF.elem a3) Tl.open_, AV.lst (5 : Nat) (List.map tyM.elem a4) Tl.open_],
    Blk.var
      [AV.str b0, AV.str b1, AV.lst (5 : Nat) (List.map tyC.elem b2) Tl.open_,
        AV.lst (2 : Nat) (List.map tyF.elem b3) Tl.open_, AV.lst (5 : Nat) (List.map tyM.elem b4) Tl.open_]]
  [Blk.var
      [AV.str a0, AV.str a1, AV.lst (5 : Nat) (List.map tyC.elem a2) Tl.open_,
        AV.lst (2 : Nat) (List.map tyF.elem a3) Tl.open_, AV.lst (5 : Nat) (List.map tyM.elem a4) Tl.open_],
    Blk.var
      [AV.str b0, AV.str b1, AV.lst (5 : Nat) (List.map tyC.elem b2) Tl.open_,
        AV.lst (2 : Nat) (List.map tyF.elem b3) Tl.open_, AV.lst (5 : Nat) (List.map tyM.elem b4) Tl.open_]])
                (T.leaf (AV.bool false))
                T.fail)))
          (T.br (!decide ((↑(List.map tyF.elem a3).length : Int) = (↑(List.map tyF.elem b3).length : Int)))
            (T.br true
              (T.leaf (AV.bool false))
              (T.br (askS [AV.ptr (0 : Nat) (0 : Nat), AV.ptr (1 : Nat) (0 : Nat), AV.int IntKind.i64 (0 : Int)]
  [AV.ptr (0 : Nat) (0 : Nat), AV.ptr (1 : Nat) (0 : Nat), AV.int IntKind.i64 (↑(0 : Nat) : Int)]
  [Blk.var
      [AV.str a0, AV.str a1, AV.lst (5 : Nat) (List.map tyC.elem a2) Tl.open_,
        AV.lst (2 : Nat) (List.map tyF.elem a3) Tl.open_, AV.lst (5 : Nat) (List.map tyM.elem a4) Tl.open_],
    Blk.var
      [AV.str b0, AV.str b1, AV.lst (5 : Nat) (List.map tyC.elem b2) Tl.open_,
        AV.lst (2 : Nat) (List.map tyF.elem b3) Tl.open_, AV.lst (5 : Nat) (List.map tyM.elem b4) Tl.open_]]
  [Blk.var
      [AV.str a0, AV.str a1, AV.lst (5 : Nat) (List.map tyC.elem a2) Tl.open_,
        AV.lst (2 : Nat) (List.map tyF.elem a3) Tl.open_, AV.lst (5 : Nat) (List.map tyM.elem a4) Tl.open_],
    Blk.var
      [AV.str b0, AV.str b1, AV.lst (5 : Nat) (List.map tyC.elem b2) Tl.open_,
        AV.lst (2 : Nat) (List.map tyF.elem b3) Tl.open_, AV.lst (5 : Nat) (List.map tyM.elem b4) Tl.open_]])
                (T.leaf (AV.bool false))
                T.fail))
            (T.br (!decide ((↑(List.map tyM.elem a4).length : Int) = (↑(List.map tyM.elem b4).length : Int)))
              (T.leaf (AV.bool false))
              (T.br (askS [AV.ptr (0 : Nat) (0 : Nat), AV.ptr (1 : Nat) (0 : Nat), AV.int IntKind.i64 (0 : Int)]
  [AV.ptr (0 : Nat) (0 : Nat), AV.ptr (1 : Nat) (0 : Nat), AV.int IntKind.i64 (↑(0 : Nat) : Int)]
  [Blk.var
      [AV.str a0, AV.str a1, AV.lst (5 : Nat) (List.map tyC.elem a2) Tl.open_,
        AV.lst (2 : Nat) (List.map tyF.elem a3) Tl.open_, AV.lst (5 : Nat) (List.map tyM.elem a4) Tl.open_],
    Blk.var
      [AV.str b0, AV.str b1, AV.lst (5 : Nat) (List.map tyC.elem b2) Tl.open_,
        AV.lst (2 : Nat) (List.map tyF.elem b3) Tl.open_, AV.lst (5 : Nat) (List.map tyM.elem b4) Tl.open_]]
  [Blk.var
      [AV.str a0, AV.str a1, AV.lst (5 : Nat) (List.map tyC.elem a2) Tl.open_,
        AV.lst (2 : Nat) (List.map tyF.elem a3) Tl.open_, AV.lst (5 : Nat) (List.map tyM.elem a4) Tl.open_],
    Blk.var
      [AV.str b0, AV.str b1, AV.lst (5 : Nat) (List.map tyC.elem b2) Tl.open_,
        AV.lst (2 : Nat) (List.map tyF.elem b3) Tl.open_, AV.lst (5 : Nat) (List.map tyM.elem b4) Tl.open_]])
                (T.leaf (AV.bool false))
                T.fail))))
        T.fail))
    (T.br (!decide (a1 = b1))
      (T.br true
        (T.br true
          (T.br true
            (T.leaf (AV.bool false))
            (T.br (askS [AV.ptr (0 : Nat) (0 : Nat), AV.ptr (1 : Nat) (0 : Nat), AV.int IntKind.i64 (0 : Int)]
  [AV.ptr (0 : Nat) (0 : Nat), AV.ptr (1 : Nat) (0 : Nat), AV.int IntKind.i64 (↑(0 : Nat) : Int)]
  [Blk.var
      [AV.str a0, AV.str a1, AV.lst (5 : Nat) (List.map tyC.elem a2) Tl.open_,
        AV.lst (2 : Nat) (List.map tyF.elem a3) Tl.open_, AV.lst (5 : Nat) (List.map tyM.elem a4) Tl.open_],
    Blk.var
      [AV.str b0, AV.str b1, AV.lst (5 : Nat) (List.map tyC.elem b2) Tl.open_,
        AV.lst (2 : Nat) (List.map tyF.elem b3) Tl.open_, AV.lst (5 : Nat) (List.map tyM.elem b4) Tl.open_]]
  [Blk.var
      [AV.str a0, AV.str a1, AV.lst (5 : Nat) (List.map tyC.elem a2) Tl.open_,
        AV.lst (2 : Nat) (List.map tyF.elem a3) Tl.open_, AV.lst (5 : Nat) (List.map tyM.elem a4) Tl.open_],
    Blk.var
      [AV.str b0, AV.str b1, AV.lst (5 : Nat) (List.map tyC.elem b2) Tl.open_,
        AV.lst (2 : Nat) (List.map tyF.elem b3) Tl.open_, AV.lst (5 : Nat) (List.map tyM.elem b4) Tl.open_]])
              (T.leaf (AV.bool false))
              T.fail))
          (T.br (!decide ((↑(List.map tyM.elem a4).length : Int) = (↑(List.map tyM.elem b4).length : Int)))
            (T.leaf (AV.bool false))
            (T.br (askS [AV.ptr (0 : Nat) (0 : Nat), AV.ptr (1 : Nat) (0 : Nat), AV.int IntKind.i64 (0 : Int)]
  [AV.ptr (0 : Nat) (0 : Nat), AV.ptr (1 : Nat) (0 : Nat), AV.int IntKind.i64 (↑(0 : Nat) : Int)]
  [Blk.var
      [AV.str a0, AV.str a1, AV.lst (5 : Nat) (List.map tyC.elem a2) Tl.open_,
        AV.lst (2 : Nat) (List.map tyF.elem a3) Tl.open_, AV.lst (5 : Nat) (List.map tyM.elem a4) Tl.open_],
    Blk.var
      [AV.str b0, AV.str b1, AV.lst (5 : Nat) (List.map tyC.elem b2) Tl.open_,
        AV.lst (2 : Nat) (List.map tyF.elem b3) Tl.open_, AV.lst (5 : Nat) (List.map tyM.elem b4) Tl.open_]]
  [Blk.var
      [AV.str a0, AV.str a1, AV.lst (5 : Nat) (List.map tyC.elem a2) Tl.open_,
        AV.lst (2 : Nat) (List.map tyF.elem a3) Tl.open_, AV.lst (5 : Nat) (List.map tyM.elem a4) Tl.open_],
    Blk.var
      [AV.str b0, AV.str b1, AV.lst (5 : Nat) (List.map tyC.elem b2) Tl.open_,
        AV.lst (2 : Nat) (List.map tyF.elem b3) Tl.open_, AV.lst (5 : Nat) (List.map tyM.elem b4) Tl.open_]])
              (T.leaf (AV.bool false))
              T.fail)))
        (T.br (!decide ((↑(List.map tyF.elem a3).length : Int) = (↑(List.map tyF.elem b3).length : Int)))
          (T.br true
            (T.leaf (AV.bool false))
            (T.br (askS [AV.ptr (0 : Nat) (0 : Nat), AV.ptr (1 : Nat) (0 : Nat), AV.int IntKind.i64 (0 : Int)]
  [AV.ptr (0 : Nat) (0 : Nat), AV.ptr (1 : Nat) (0 : Nat), AV.int IntKind.i64 (↑(0 : Nat) : Int)]
  [Blk.var
      [AV.str a0, AV.str a1, AV.lst (5 : Nat) (List.map tyC.elem a2) Tl.open_,
        AV.lst (2 : Nat) (List.map tyF.elem a3) Tl.open_, AV.lst (5 : Nat) (List.map tyM.elem a4) Tl.open_],
    Blk.var
      [AV.str b0, AV.str b1, AV.lst (5 : Nat) (List.map tyC.elem b2) Tl.open_,
        AV.lst (2 : Nat) (List.map tyF.elem b3) Tl.open_, AV.lst (5 : Nat) (List.map tyM.elem b4) Tl.open_]]
  [Blk.var
      [AV.str a0, AV.str a1, AV.lst (5 : Nat) (List.map tyC.elem a2) Tl.open_,
        AV.lst (2 : Nat) (List.map tyF.elem a3) Tl.open_, AV.lst (5 : Nat) (List.map tyM.elem a4) Tl.open_],
    Blk.var
      [AV.str b0, AV.str b1, AV.lst (5 : Nat) (List.map tyC.elem b2) Tl.open_,
        AV.lst (2 : Nat) (List.map tyF.elem b3) Tl.open_, AV.lst (5 : Nat) (List.map tyM.elem b4) Tl.open_]])
              (T.leaf (AV.bool false))
              T.fail))
          (T.br (!decide ((↑(List.map tyM.elem a4).length : Int) = (↑(List.map tyM.elem b4).length : Int)))
            (T.leaf (AV.bool false))
            (T.br (askS [AV.ptr (0 : Nat) (0 : Nat), AV.ptr (1 : Nat) (0 : Nat), AV.int IntKind.i64 (0 : Int)]
  [AV.ptr (0 : Nat) (0 : Nat), AV.ptr (1 : Nat) (0 : Nat), AV.int IntKind.i64 (↑(0 : Nat) : Int)]
  [Blk.var
      [AV.str a0, AV.str a1, AV.lst (5 : Nat) (List.map tyC.elem a2) Tl.open_,
        AV.lst (2 : Nat) (List.map tyF.elem a3) Tl.open_, AV.lst (5 : Nat) (List.map tyM.elem a4) Tl.open_],
    Blk.var
      [AV.str b0, AV.str b1, AV.lst (5 : Nat) (List.map tyC.elem b2) Tl.open_,
        AV.lst (2 : Nat) (List.map tyF.elem b3) Tl.open_, AV.lst (5 : Nat) (List.map tyM.elem b4) Tl.open_]]
  [Blk.var
      [AV.str a0, AV.str a1, AV.lst (5 : Nat) (List.map tyC.elem a2) Tl.open_,
        AV.lst (2 : Nat) (List.map tyF.elem a3) Tl.open_, AV.lst (5 : Nat) (List.map tyM.elem a4) Tl.open_],
    Blk.var
      [AV.str b0, AV.str b1, AV.lst (5 : Nat) (List.map tyC.elem b2) Tl.open_,
        AV.lst (2 : Nat) (List.map tyF.elem b3) Tl.open_, AV.lst (5 : Nat) (List.map tyM.elem b4) Tl.open_]])
              (T.leaf (AV.bool false))
              T.fail))))
      (T.br (askQ (clLL (26 : FuncId) tyC).2
  [AV.lst (5 : Nat) (List.map tyC.elem a2) Tl.open_, AV.lst (5 : Nat) (List.map tyC.elem b2) Tl.open_])
        (T.br (!ask
    (AV.lst (5 : Nat) (List.map tyC.elem a2) Tl.open_ = AV.lst (5 : Nat) (List.map tyC.elem b2) Tl.open_))
          (T.br true
            (T.br true
              (T.leaf (AV.bool false))
              (T.br (askS [AV.ptr (0 : Nat) (0 : Nat), AV.ptr (1 : Nat) (0 : Nat), AV.int IntKind.i64 (0 : Int)]
  [AV.ptr (0 : Nat) (0 : Nat), AV.ptr (1 : Nat) (0 : Nat), AV.int IntKind.i64 (↑(0 : Nat) : Int)]
  [Blk.var
      [AV.str a0, AV.str a1, AV.lst (5 : Nat) (List.map tyC.elem a2) Tl.open_,
        AV.lst (2 : Nat) (List.map tyF.elem a3) Tl.open_, AV.lst (5 : Nat) (List.map tyM.elem a4) Tl.open_],
    Blk.var
      [AV.str b0, AV.str b1, AV.lst (5 : Nat) (List.map tyC.elem b2) Tl.open_,
        AV.lst (2 : Nat) (List.map tyF.elem b3) Tl.open_, AV.lst (5 : Nat) (List.map tyM.elem b4) Tl.open_]]
  [Blk.var
      [AV.str a0, AV.str a1, AV.lst (5 : Nat) (List.map tyC.elem a2) Tl.open_,
        AV.lst (2 : Nat) (List.map tyF.elem a3) Tl.open_, AV.lst (5 : Nat) (List.map tyM.elem a4) Tl.open_],
    Blk.var
      [AV.str b0, AV.str b1, AV.lst (5 : Nat) (List.map tyC.elem b2) Tl.open_,
        AV.lst (2 : Nat) (List.map tyF.elem b3) Tl.open_, AV.lst (5 : Nat) (List.map tyM.elem b4) Tl.open_]])
                (T.leaf (AV.bool false))
                T.fail))
            (T.br (!decide ((↑(List.map tyM.elem a4).length : Int) = (↑(List.map tyM.elem b4).length : Int)))
              (T.leaf (AV.bool false))
              (T.br (askS [AV.ptr (0 : Nat) (0 : Nat), AV.ptr (1 : Nat) (0 : Nat), AV.int IntKind.i64 (0 : Int)]
  [AV.ptr (0 : Nat) (0 : Nat), AV.ptr (1 : Nat) (0 : Nat), AV.int IntKind.i64 (↑(0 : Nat) : Int)]
  [Blk.var
      [AV.str a0, AV.str a1, AV.lst (5 : Nat) (List.map tyC.elem a2) Tl.open_,
        AV.lst (2 : Nat) (List.map tyF.elem a3) Tl.open_, AV.lst (5 : Nat) (List.map tyM.elem a4) Tl.open_],
    Blk.var
      [AV.str b0, AV.str b1, AV.lst (5 : Nat) (List.map tyC.elem b2) Tl.open_,
        AV.lst (2 : Nat) (List.map tyF.elem b3) Tl.open_, AV.lst (5 : Nat) (List.map tyM.elem b4) Tl.open_]]
  [Blk.var
      [AV.str a0, AV.str a1, AV.lst (5 : Nat) (List.map tyC.elem a2) Tl.open_,
        AV.lst (2 : Nat) (List.map tyF.elem a3) Tl.open_, AV.lst (5 : Nat) (List.map tyM.elem a4) Tl.open_],
    Blk.var
      [AV.str b0, AV.str b1, AV.lst (5 : Nat) (List.map tyC.elem b2) Tl.open_,
        AV.lst (2 : Nat) (List.map tyF.elem b3) Tl.open_, AV.lst (5 : Nat) (List.map tyM.elem b4) Tl.open_]])
                (T.leaf (AV.bool false))
                T.fail)))
          (T.br (!decide ((↑(List.map tyF.elem a3).length : Int) = (↑(List.map tyF.elem b3).length : Int)))
            (T.br true
              (T.leaf (AV.bool false))
              (T.br (askS [AV.ptr (0 : Nat) (0 : Nat), AV.ptr (1 : Nat) (0 : Nat), AV.int IntKind.i64 (0 : Int)]
  [AV.ptr (0 : Nat) (0 : Nat), AV.ptr (1 : Nat) (0 : Nat), AV.int IntKind.i64 (↑(0 : Nat) : Int)]
  [Blk.var
      [AV.str a0, AV.str a1, AV.lst (5 : Nat) (List.map tyC.elem a2) Tl.open_,
        AV.lst (2 : Nat) (List.map tyF.elem a3) Tl.open_, AV.lst (5 : Nat) (List.map tyM.elem a4) Tl.open_],
    Blk.var
      [AV.str b0, AV.str b1, AV.lst (5 : Nat) (List.map tyC.elem b2) Tl.open_,
        AV.lst (2 : Nat) (List.map tyF.elem b3) Tl.open_, AV.lst (5 : Nat) (List.map tyM.elem b4) Tl.open_]]
  [Blk.var
      [AV.str a0, AV.str a1, AV.lst (5 : Nat) (List.map tyC.elem a2) Tl.open_,
        AV.lst (2 : Nat) (List.map tyF.elem a3) Tl.open_, AV.lst (5 : Nat) (List.map tyM.elem a4) Tl.open_],
    Blk.var
      [AV.str b0, AV.str b1, AV.lst (5 : Nat) (List.map tyC.elem b2) Tl.open_,
        AV.lst (2 : Nat) (List.map tyF.elem b3) Tl.open_, AV.lst (5 : Nat) (List.map tyM.elem b4) Tl.open_]])
                (T.leaf (AV.bool false))
                T.fail))
            (T.br (!decide ((↑(List.map tyM.elem a4).length : Int) = (↑(List.map tyM.elem b4).length : Int)))
              (T.leaf (AV.bool false))
              (T.br (askS [AV.ptr (0 : Nat) (0 : Nat), AV.ptr (1 : Nat) (0 : Nat), AV.int IntKind.i64 (0 : Int)]
  [AV.ptr (0 : Nat) (0 : Nat), AV.ptr (1 : Nat) (0 : Nat), AV.int IntKind.i64 (↑(0 : Nat) : Int)]
  [Blk.var
      [AV.str a0, AV.str a1, AV.lst (5 : Nat) (List.map tyC.elem a2) Tl.open_,
        AV.lst (2 : Nat) (List.map tyF.elem a3) Tl.open_, AV.lst (5 : Nat) (List.map tyM.elem a4) Tl.open_],
    Blk.var
      [AV.str b0, AV.str b1, AV.lst (5 : Nat) (List.map tyC.elem b2) Tl.open_,
        AV.lst (2 : Nat) (List.map tyF.elem b3) Tl.open_, AV.lst (5 : Nat) (List.map tyM.elem b4) Tl.open_]]
  [Blk.var
      [AV.str a0, AV.str a1, AV.lst (5 : Nat) (List.map tyC.elem a2) Tl.open_,
        AV.lst (2 : Nat) (List.map tyF.elem a3) Tl.open_, AV.lst (5 : Nat) (List.map tyM.elem a4) Tl.open_],
    Blk.var
      [AV.str b0, AV.str b1, AV.lst (5 : Nat) (List.map tyC.elem b2) Tl.open_,
        AV.lst (2 : Nat) (List.map tyF.elem b3) Tl.open_, AV.lst (5 : Nat) (List.map tyM.elem b4) Tl.open_]])
                (T.leaf (AV.bool false))
                T.fail))))
        T.fail))) := by kernel_rfl
theorem p11x (a0 a1 : ByteArray) (a2 : List tyC.I) (a3 : List tyF.I) (a4 : List tyM.I) (b0 b1 : ByteArray) (b2 : List tyC.I) (b3 : List tyF.I) (b4 : List tyM.I) : runV (XC 25 [12,19,27,36,44,49,62,67,81] [clLL 26 tyC, clEE 51 tyM]) (kTwo (kNo [1,1,0,1]) (kNo [1,1,1,0,1])) Tryz.f25 (bodyOf Tryz.f25) [.agg [.str a0, .str a1, encL tyC a2, encL tyF a3, encL tyM a4], .agg [.str b0, .str b1, encL tyC b2, encL tyF b3, encL tyM b4]] =
  (T.br (!decide (a0 = b0))
    (T.br true
      (T.br true
        (T.br true
          (T.br true
            (T.leaf (AV.bool false))
            T.fail)
          (T.br (!decide ((↑(List.map tyM.elem a4).length : Int) = (↑(List.map tyM.elem b4).length : Int)))
            (T.leaf (AV.bool false))
            T.fail))
        (T.br (!decide ((↑(List.map tyF.elem a3).length : Int) = (↑(List.map tyF.elem b3).length : Int)))
          (T.br true
            (T.leaf (AV.bool false))
            T.fail)
          (T.br (!decide ((↑(List.map tyM.elem a4).length : Int) = (↑(List.map tyM.elem b4).length : Int)))
            (T.leaf (AV.bool false))
            T.fail)))
      (T.br (askQ (clLL (26 : FuncId) tyC).2
  [AV.lst (5 : Nat) (List.map tyC.elem a2) Tl.open_, AV.lst (5 : Nat) (List.map tyC.elem b2) Tl.open_])
        (T.br (!ask
    (AV.lst (5 : Nat) (List.map tyC.elem a2) Tl.open_ = AV.lst (5 : Nat) (List.map tyC.elem b2) Tl.open_))
          (T.br true
            (T.br true
              (T.leaf (AV.bool false))
              T.fail)
            (T.br (!decide ((↑(List.map tyM.elem a4).length : Int) = (↑(List.map tyM.elem b4).length : Int)))
              (T.leaf (AV.bool false))
              T.fail))
          (T.br (!decide ((↑(List.map tyF.elem a3).length : Int) = (↑(List.map tyF.elem b3).length : Int)))
            (T.br true
              (T.leaf (AV.bool false))
              T.fail)
            (T.br (!decide ((↑(List.map tyM.elem a4).length : Int) = (↑(List.map tyM.elem b4).length : Int)))
              (T.leaf (AV.bool false))
              T.fail)))
        T.fail))
    (T.br (!decide (a1 = b1))
      (T.br true
        (T.br true
          (T.br true
            (T.leaf (AV.bool false))
            T.fail)
          (T.br (!decide ((↑(List.map tyM.elem a4).length : Int) = (↑(List.map tyM.elem b4).length : Int)))
            (T.leaf (AV.bool false))
            T.fail))
        (T.br (!decide ((↑(List.map tyF.elem a3).length : Int) = (↑(List.map tyF.elem b3).length : Int)))
          (T.br true
            (T.leaf (AV.bool false))
            T.fail)
          (T.br (!decide ((↑(List.map tyM.elem a4).length : Int) = (↑(List.map tyM.elem b4).length : Int)))
            (T.leaf (AV.bool false))
            T.fail)))
      (T.br (askQ (clLL (26 : FuncId) tyC).2
  [AV.lst (5 : Nat) (List.map tyC.elem a2) Tl.open_, AV.lst (5 : Nat) (List.map tyC.elem b2) Tl.open_])
        (T.br (!ask
    (AV.lst (5 : Nat) (List.map tyC.elem a2) Tl.open_ = AV.lst (5 : Nat) (List.map tyC.elem b2) Tl.open_))
          (T.br true
            (T.br true
              (T.leaf (AV.bool false))
              T.fail)
            (T.br (!decide ((↑(List.map tyM.elem a4).length : Int) = (↑(List.map tyM.elem b4).length : Int)))
              (T.leaf (AV.bool false))
              T.fail))
          (T.br (!decide ((↑(List.map tyF.elem a3).length : Int) = (↑(List.map tyF.elem b3).length : Int)))
            (T.br true
              (T.leaf (AV.bool false))
              T.fail)
            (T.br (!decide ((↑(List.map tyM.elem a4).length : Int) = (↑(List.map tyM.elem b4).length : Int)))
              (T.leaf (AV.bool false))
              T.fail)))
        T.fail))) := by kernel_rfl
def hm11 (a0 a1 : ByteArray) (a2 : List tyC.I) (a3 : List tyF.I) (a4 : List tyM.I) (b0 b1 : ByteArray) (b2 : List tyC.I) (b3 : List tyF.I) (b4 : List tyM.I) : H := [.var [.str a0, .str a1, encL tyC a2, encL tyF a3, encL tyM a4], .var [.str b0, .str b1, encL tyC b2, encL tyF b3, encL tyM b4]]
theorem calls11 {X : SX} (hx : X.call = callsBy [clLL 26 tyC, clEE 51 tyM]) (hE : X.E = E0) : CallOK X.E X.calls := callsBy_ok hx fun c hc => by
  rw [hE]
  rcases List.mem_cons.1 hc with rfl | hc
  · exact clLL_con con33
  · obtain rfl := List.mem_singleton.1 hc
    exact clEE_con con34
theorem go11a (a0 a1 : ByteArray) (a2 : List tyC.I) (a3 : List tyF.I) (a4 : List tyM.I) (b0 b1 : ByteArray) (b2 : List tyC.I) (b3 : List tyF.I) (b4 : List tyM.I) (hlen : b3.length = a3.length) (hl : a3.length < 1000000000000000) (j : Nat) (hj : j < a3.length) :
    (a3.getD j tyF.zero = b3.getD j tyF.zero → Tri E0 82 [] (sub (bodyOf Tryz.f25) [1,1,0,1,0,0]) (frm (st11a j)) (hm11 a0 a1 a2 a3 a4 b0 b1 b2 b3 b4) .normal (frm (st11a (j + 1))) (hm11 a0 a1 a2 a3 a4 b0 b1 b2 b3 b4)) ∧
    (a3.getD j tyF.zero ≠ b3.getD j tyF.zero → Tri E0 82 [] (sub (bodyOf Tryz.f25) [1,1,0,1,0,0]) (frm (st11a j)) (hm11 a0 a1 a2 a3 a4 b0 b1 b2 b3 b4) .ret (frm [(4, .bool false)]) (hm11 a0 a1 a2 a3 a4 b0 b1 b2 b3 b4)) := by
  have ht := p11a a0 a1 a2 a3 a4 b0 b1 b2 b3 b4 j
  have hjm : j < b3.length := by omega
  have f0 : fitsC Tryz.prog 86 (tyF.elem tyF.zero) = true := by kernel_rfl
  rw [idx_ok hj f0, idx_ok hjm f0, lt_ok hj, Int.toNat_natCast, getD_elem hj, getD_elem hjm, cmp_tyF, wrap_next (by omega)] at ht
  refine ⟨fun he => ?_, fun he => ?_⟩
  · rw [ask_true he] at ht
    exact Tri.seen (X := XC 25 [12,19,27,36,44,49,62,67,81] [clLL 26 tyC, clEE 51 tyM]) g0 (calls11 rfl rfl) KOK.none rfl (congrArg T.run ht) (by
      intro q hq
      simp only [st11a, List.mem_cons, List.not_mem_nil, or_false] at hq
      rcases hq with rfl | rfl | rfl <;> rfl)
  · rw [ask_false he] at ht
    exact Tri.seen (X := XC 25 [12,19,27,36,44,49,62,67,81] [clLL 26 tyC, clEE 51 tyM]) g0 (calls11 rfl rfl) KOK.none rfl (congrArg T.run ht) (by
      intro q hq
      simp only [List.mem_cons, List.not_mem_nil, or_false] at hq
      rcases hq with rfl; rfl)
theorem out11a (a0 a1 : ByteArray) (a2 : List tyC.I) (a3 : List tyF.I) (a4 : List tyM.I) (b0 b1 : ByteArray) (b2 : List tyC.I) (b3 : List tyF.I) (b4 : List tyM.I) : Tri E0 82 [] (sub (bodyOf Tryz.f25) [1,1,0,1,0,0]) (frm (st11a a3.length)) (hm11 a0 a1 a2 a3 a4 b0 b1 b2 b3 b4) (.exit 0) (frm (st11a a3.length)) (hm11 a0 a1 a2 a3 a4 b0 b1 b2 b3 b4) := by
  have ht := p11a a0 a1 a2 a3 a4 b0 b1 b2 b3 b4 a3.length
  rw [lt_no] at ht
  exact Tri.seen (X := XC 25 [12,19,27,36,44,49,62,67,81] [clLL 26 tyC, clEE 51 tyM]) g0 (calls11 rfl rfl) KOK.none rfl (congrArg T.run ht) (by
    intro q hq
    simp only [st11a, List.mem_cons, List.not_mem_nil, or_false] at hq
    rcases hq with rfl | rfl | rfl <;> rfl)
theorem go11b (a0 a1 : ByteArray) (a2 : List tyC.I) (a3 : List tyF.I) (a4 : List tyM.I) (b0 b1 : ByteArray) (b2 : List tyC.I) (b3 : List tyF.I) (b4 : List tyM.I) (hlen : b4.length = a4.length) (hl : a4.length < 1000000000000000) (hok : ∀ x, x ∈ a4 → tyM.okay x) (j : Nat) (hj : j < a4.length) :
    (a4.getD j tyM.zero = b4.getD j tyM.zero → Tri E0 82 [] (sub (bodyOf Tryz.f25) [1,1,1,0,1,0,0]) (frm (st11b j)) (hm11 a0 a1 a2 a3 a4 b0 b1 b2 b3 b4) .normal (frm (st11b (j + 1))) (hm11 a0 a1 a2 a3 a4 b0 b1 b2 b3 b4)) ∧
    (a4.getD j tyM.zero ≠ b4.getD j tyM.zero → Tri E0 82 [] (sub (bodyOf Tryz.f25) [1,1,1,0,1,0,0]) (frm (st11b j)) (hm11 a0 a1 a2 a3 a4 b0 b1 b2 b3 b4) .ret (frm [(4, .bool false)]) (hm11 a0 a1 a2 a3 a4 b0 b1 b2 b3 b4)) := by
  have ht := p11b a0 a1 a2 a3 a4 b0 b1 b2 b3 b4 j
  have hjm : j < b4.length := by omega
  have f0 : fitsC Tryz.prog 41 (tyM.elem tyM.zero) = true := by kernel_rfl
  have hx : tyM.okay (a4.getD j tyM.zero) := hok _ (by rw [List.getD_eq_getElem?_getD, List.getElem?_eq_getElem hj]; exact List.getElem_mem hj)
  have hq : askQ (clEE 51 tyM).2 [tyM.elem (a4.getD j tyM.zero), tyM.elem (b4.getD j tyM.zero)] = true := ask_true ⟨_, _, rfl, hx⟩
  rw [idx_ok hj f0, idx_ok hjm f0, lt_ok hj, Int.toNat_natCast, getD_elem hj, getD_elem hjm, shape_M, shape_M, hq, ask_EE tyM, wrap_next (by omega)] at ht
  refine ⟨fun he => ?_, fun he => ?_⟩
  · rw [ask_true he] at ht
    exact Tri.seen (X := XC 25 [12,19,27,36,44,49,62,67,81] [clLL 26 tyC, clEE 51 tyM]) g0 (calls11 rfl rfl) KOK.none rfl (congrArg T.run ht) (by
      intro q hq
      simp only [st11b, List.mem_cons, List.not_mem_nil, or_false] at hq
      rcases hq with rfl | rfl | rfl <;> rfl)
  · rw [ask_false he] at ht
    exact Tri.seen (X := XC 25 [12,19,27,36,44,49,62,67,81] [clLL 26 tyC, clEE 51 tyM]) g0 (calls11 rfl rfl) KOK.none rfl (congrArg T.run ht) (by
      intro q hq
      simp only [List.mem_cons, List.not_mem_nil, or_false] at hq
      rcases hq with rfl; rfl)
theorem out11b (a0 a1 : ByteArray) (a2 : List tyC.I) (a3 : List tyF.I) (a4 : List tyM.I) (b0 b1 : ByteArray) (b2 : List tyC.I) (b3 : List tyF.I) (b4 : List tyM.I) : Tri E0 82 [] (sub (bodyOf Tryz.f25) [1,1,1,0,1,0,0]) (frm (st11b a4.length)) (hm11 a0 a1 a2 a3 a4 b0 b1 b2 b3 b4) (.exit 2) (frm (st11b a4.length)) (hm11 a0 a1 a2 a3 a4 b0 b1 b2 b3 b4) := by
  have ht := p11b a0 a1 a2 a3 a4 b0 b1 b2 b3 b4 a4.length
  rw [lt_no] at ht
  exact Tri.seen (X := XC 25 [12,19,27,36,44,49,62,67,81] [clLL 26 tyC, clEE 51 tyM]) g0 (calls11 rfl rfl) KOK.none rfl (congrArg T.run ht) (by
    intro q hq
    simp only [st11b, List.mem_cons, List.not_mem_nil, or_false] at hq
    rcases hq with rfl | rfl | rfl <;> rfl)
theorem con11r (a0 a1 : ByteArray) (a2 : List tyC.I) (a3 : List tyF.I) (a4 : List tyM.I) (b0 b1 : ByteArray) (b2 : List tyC.I) (b3 : List tyF.I) (b4 : List tyM.I) (l2 : a2.length < 1000000000000000) (l3 : a3.length < 1000000000000000) (l4 : a4.length < 1000000000000000) (hok : ∀ x, x ∈ a4 → tyM.okay x) (h : H) :
    Con E0 25 [tyK.elem (a0, a1, a2, a3, a4), tyK.elem (b0, b1, b2, b3, b4)] h (.bool (ask (((a0, a1, a2, a3, a4) : ByteArray × ByteArray × List tyC.I × List tyF.I × List tyM.I) = (b0, b1, b2, b3, b4)))) h := by
  have q2 : askQ (clLL 26 tyC).2 [AV.lst 5 (List.map tyC.elem a2) Tl.open_, AV.lst 5 (List.map tyC.elem b2) Tl.open_] = true := ask_true ⟨a2, b2, rfl, l2⟩
  have e2 : ask (AV.lst 5 (List.map tyC.elem a2) Tl.open_ = AV.lst 5 (List.map tyC.elem b2) Tl.open_) = ask (a2 = b2) := ask_LL tyC a2 b2
  have fin : ∀ {K : Known}, KOK E0 82 [] (bodyOf Tryz.f25) K → (runV (XC 25 [12,19,27,36,44,49,62,67,81] [clLL 26 tyC, clEE 51 tyM]) K Tryz.f25 (bodyOf Tryz.f25) [tyK.elem (a0, a1, a2, a3, a4), tyK.elem (b0, b1, b2, b3, b4)]).run = .ok (.bool (decide (a0 = b0) && (decide (a1 = b1) && (ask (a2 = b2) && (ask (a3 = b3) && ask (a4 = b4)))))) → Con E0 25 [tyK.elem (a0, a1, a2, a3, a4), tyK.elem (b0, b1, b2, b3, b4)] h (.bool (ask (((a0, a1, a2, a3, a4) : ByteArray × ByteArray × List tyC.I × List tyF.I × List tyM.I) = (b0, b1, b2, b3, b4)))) h := fun hk hr => by
    rw [sameK]
    exact Con.pureV (X := XC 25 [12,19,27,36,44,49,62,67,81] [clLL 26 tyC, clEE 51 tyM]) g0 noG0 (calls11 rfl rfl) (fn := Tryz.f25) Tryz.func25 (c := bodyOf Tryz.f25) rfl rfl (args := [tyK.elem (a0, a1, a2, a3, a4), tyK.elem (b0, b1, b2, b3, b4)]) hk (noRefs2 tyK _ _) hr (Le.refl _) rfl h
  by_cases hm : a3.length = b3.length ∧ a4.length = b4.length
  · obtain ⟨m3, m4⟩ := hm
    have d3 : (!decide ((((a3.map tyF.elem).length : Nat) : Int) = (((b3.map tyF.elem).length : Nat) : Int))) = false := by simp; omega
    have d4 : (!decide ((((a4.map tyM.elem).length : Nat) : Int) = (((b4.map tyM.elem).length : Nat) : Int))) = false := by simp; omega
    obtain ⟨r1, r2⟩ := eq_rounds (L := a3) (M := b3) (z := tyF.zero) (st := st11a) (rt := [(4, .bool false)]) m3.symm (fun j hj => (go11a a0 a1 a2 a3 a4 b0 b1 b2 b3 b4 m3.symm l3 j hj).1) (fun j hj => (go11a a0 a1 a2 a3 a4 b0 b1 b2 b3 b4 m3.symm l3 j hj).2) (out11a a0 a1 a2 a3 a4 b0 b1 b2 b3 b4)
    obtain ⟨s1, s2⟩ := eq_rounds (L := a4) (M := b4) (z := tyM.zero) (st := st11b) (rt := [(4, .bool false)]) m4.symm (fun j hj => (go11b a0 a1 a2 a3 a4 b0 b1 b2 b3 b4 m4.symm l4 hok j hj).1) (fun j hj => (go11b a0 a1 a2 a3 a4 b0 b1 b2 b3 b4 m4.symm l4 hok j hj).2) (out11b a0 a1 a2 a3 a4 b0 b1 b2 b3 b4)
    have hS : (askS [AV.ptr (0 : Nat) (0 : Nat), AV.ptr (1 : Nat) (0 : Nat), AV.int IntKind.i64 (0 : Int)]
  [AV.ptr (0 : Nat) (0 : Nat), AV.ptr (1 : Nat) (0 : Nat), AV.int IntKind.i64 (↑(0 : Nat) : Int)]
  [Blk.var
      [AV.str a0, AV.str a1, AV.lst (5 : Nat) (List.map tyC.elem a2) Tl.open_,
        AV.lst (2 : Nat) (List.map tyF.elem a3) Tl.open_, AV.lst (5 : Nat) (List.map tyM.elem a4) Tl.open_],
    Blk.var
      [AV.str b0, AV.str b1, AV.lst (5 : Nat) (List.map tyC.elem b2) Tl.open_,
        AV.lst (2 : Nat) (List.map tyF.elem b3) Tl.open_, AV.lst (5 : Nat) (List.map tyM.elem b4) Tl.open_]]
  [Blk.var
      [AV.str a0, AV.str a1, AV.lst (5 : Nat) (List.map tyC.elem a2) Tl.open_,
        AV.lst (2 : Nat) (List.map tyF.elem a3) Tl.open_, AV.lst (5 : Nat) (List.map tyM.elem a4) Tl.open_],
    Blk.var
      [AV.str b0, AV.str b1, AV.lst (5 : Nat) (List.map tyC.elem b2) Tl.open_,
        AV.lst (2 : Nat) (List.map tyF.elem b3) Tl.open_, AV.lst (5 : Nat) (List.map tyM.elem b4) Tl.open_]]) = true := askS_self _ _
    have hS2 : askS [AV.ptr 0 0, AV.ptr 1 0, AV.int .i64 0] [AV.ptr 0 0, AV.ptr 1 0, AV.int .i64 ((0 : Nat) : Int)] [.var [.str a0, .str a1, encL tyC a2, encL tyF a3, encL tyM a4], .var [.str b0, .str b1, encL tyC b2, encL tyF b3, encL tyM b4]] [.var [.str a0, .str a1, encL tyC a2, encL tyF a3, encL tyM a4], .var [.str b0, .str b1, encL tyC b2, encL tyF b3, encL tyM b4]] = true := askS_self _ _
    by_cases he3 : a3 = b3
    · have hk3 : KOK E0 82 [] (bodyOf Tryz.f25) (kAt [1,1,0,1] (st11a 0) (hm11 a0 a1 a2 a3 a4 b0 b1 b2 b3 b4) .normal (st11a a3.length) (hm11 a0 a1 a2 a3 a4 b0 b1 b2 b3 b4)) := kAt_ok (Tri.block (id := 0) (Tri.loop (r1 he3)))
      by_cases he4 : a4 = b4
      · have hk4 : KOK E0 82 [] (bodyOf Tryz.f25) (kAt [1,1,1,0,1] (st11b 0) (hm11 a0 a1 a2 a3 a4 b0 b1 b2 b3 b4) .normal (st11b a4.length) (hm11 a0 a1 a2 a3 a4 b0 b1 b2 b3 b4)) := kAt_ok (Tri.block (id := 2) (Tri.loop (s1 he4)))
        have ht := p11nn a0 a1 a2 a3 a4 b0 b1 b2 b3 b4
        rw [hS, d3, d4, q2, e2] at ht
        refine fin (hk3.two hk4) ((congrArg T.run ht).trans ?_)
        rw [ask_true he3, ask_true he4]
        generalize decide (a0 = b0) = c0
        generalize decide (a1 = b1) = c1
        generalize ask (a2 = b2) = c2
        cases c0 <;> cases c1 <;> cases c2 <;> rfl
      · have hk4 : KOK E0 82 [] (bodyOf Tryz.f25) (kAt [1,1,1,0,1] (st11b 0) (hm11 a0 a1 a2 a3 a4 b0 b1 b2 b3 b4) .ret [(4, .bool false)] (hm11 a0 a1 a2 a3 a4 b0 b1 b2 b3 b4)) := kAt_ok (Tri.block (id := 2) (Tri.loop (s2 he4)))
        have ht := p11nr a0 a1 a2 a3 a4 b0 b1 b2 b3 b4
        rw [hS, d3, d4, q2, e2] at ht
        refine fin (hk3.two hk4) ((congrArg T.run ht).trans ?_)
        rw [ask_true he3, ask_false he4]
        generalize decide (a0 = b0) = c0
        generalize decide (a1 = b1) = c1
        generalize ask (a2 = b2) = c2
        cases c0 <;> cases c1 <;> cases c2 <;> rfl
    · have hk3 : KOK E0 82 [] (bodyOf Tryz.f25) (kAt [1,1,0,1] (st11a 0) (hm11 a0 a1 a2 a3 a4 b0 b1 b2 b3 b4) .ret [(4, .bool false)] (hm11 a0 a1 a2 a3 a4 b0 b1 b2 b3 b4)) := kAt_ok (Tri.block (id := 0) (Tri.loop (r2 he3)))
      have ht := p11r a0 a1 a2 a3 a4 b0 b1 b2 b3 b4
      rw [hS, d3, d4, q2, e2] at ht
      refine fin (hk3.two (kNo_ok (p := [1,1,1,0,1]))) ((congrArg T.run ht).trans ?_)
      rw [ask_false he3]
      generalize decide (a0 = b0) = c0
      generalize decide (a1 = b1) = c1
      generalize ask (a2 = b2) = c2
      cases c0 <;> cases c1 <;> cases c2 <;> rfl
  · have ht := p11x a0 a1 a2 a3 a4 b0 b1 b2 b3 b4
    rw [q2, e2] at ht
    refine fin (.two (kNo_ok (p := [1,1,0,1])) (kNo_ok (p := [1,1,1,0,1]))) ((congrArg T.run ht).trans ?_)
    have hn : (ask (a3 = b3) && ask (a4 = b4)) = false := by
      by_cases m3 : a3.length = b3.length
      · rw [ask_false (p := a4 = b4) (fun h => hm ⟨m3, congrArg List.length h⟩), Bool.and_false]
      · rw [ask_false (p := a3 = b3) (fun h => m3 (congrArg List.length h)), Bool.false_and]
    have hd : (!decide ((((a3.map tyF.elem).length : Nat) : Int) = (((b3.map tyF.elem).length : Nat) : Int))) = true ∨ (!decide ((((a4.map tyM.elem).length : Nat) : Int) = (((b4.map tyM.elem).length : Nat) : Int))) = true := by
      by_cases m3 : a3.length = b3.length
      · right; simp; omega
      · left; simp; omega
    rw [hn]
    generalize (!decide ((((a3.map tyF.elem).length : Nat) : Int) = (((b3.map tyF.elem).length : Nat) : Int))) = u3 at hd ⊢
    generalize (!decide ((((a4.map tyM.elem).length : Nat) : Int) = (((b4.map tyM.elem).length : Nat) : Int))) = u4 at hd ⊢
    generalize decide (a0 = b0) = c0
    generalize decide (a1 = b1) = c1
    generalize ask (a2 = b2) = c2
    rcases hd with rfl | rfl
    · cases c0 <;> cases c1 <;> cases c2 <;> cases u4 <;> rfl
    · cases c0 <;> cases c1 <;> cases c2 <;> cases u3 <;> rfl
theorem con11 (x y : tyK.I) (hx : tyK.okay x) (h : H) : Con E0 25 [tyK.elem x, tyK.elem y] h (.bool (ask (x = y))) h := by
  obtain ⟨a0, a1, a2, a3, a4⟩ := x
  obtain ⟨b0, b1, b2, b3, b4⟩ := y
  exact con11r a0 a1 a2 a3 a4 b0 b1 b2 b3 b4 (Nat.lt_of_le_of_lt hx.2.2.1.1 (by decide)) (Nat.lt_of_le_of_lt hx.2.2.2.1.1 (by decide)) (Nat.lt_of_le_of_lt hx.2.2.2.2.1 (by decide)) hx.2.2.2.2.2 h
end Go.Proofs.YtaooangghieljaaGreatDoor.AM
