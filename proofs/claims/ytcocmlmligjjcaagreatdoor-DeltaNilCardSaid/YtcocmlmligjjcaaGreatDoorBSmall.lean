import Derived.Test.YtcocmlmligjjcaaGreatDoorBKinds
namespace Go.Proofs.YtcocmlmligjjcaaGreatDoor.AM
open Go Go.Proofs Go.RowKit
set_option linter.unusedVariables false
set_option linter.unusedSimpArgs false
def st37o (l : List tyK.I) (j : Nat) (n : Int) : List (Nat × AV) := [(0, encL tyK l), (3, .int .i64 n), (4, .int .i64 j)]
def st37i (l : List tyK.I) (i : Int) (j : Nat) (n : Int) : List (Nat × AV) := [(0, encL tyK l), (3, .int .i64 n), (4, .int .i64 i), (5, .int .i64 j)]
theorem p37i (l : List AV) (n i k : Int) : obsK (XN 37 [8, 12, 22, 31, 39, 47, 74]) (fun _ => none) 75 (sub (bodyOf Tryz.f37) [1,1,1,0,1,0,0,1,0,0,1,1,0,0]) [1,1,1,0,1,0,0,1,0,0,1,1,0,0] (frm [(0, .lst 5 l .open_), (3, .int .i64 n), (4, .int .i64 i), (5, .int .i64 k)]) [] [0,2,3,4,5] =
  (T.br (decide ((0 : Int) ≤ i) && decide (i < (↑l.length : Int)) && fitsC Tryz.prog (187 : Nat) (l.getD i.toNat undef))
    (T.br (decide (k < (↑((l.getD i.toNat undef).cells.getD (4 : Nat) undef).toL.length : Int)))
      (T.br (decide ((0 : Int) ≤ i) && decide (i < (↑l.length : Int)) &&
  fitsC Tryz.prog (187 : Nat) (l.getD i.toNat undef))
        (T.br (decide ((0 : Int) ≤ k) &&
    decide (k < (↑((l.getD i.toNat undef).cells.getD (4 : Nat) undef).toL.length : Int)) &&
  fitsC Tryz.prog (95 : Nat) (((l.getD i.toNat undef).cells.getD (4 : Nat) undef).toL.getD k.toNat undef))
          (T.br (decide ((0 : Int) ≤ i) && decide (i < (↑l.length : Int)) &&
  fitsC Tryz.prog (187 : Nat) (l.getD i.toNat undef))
            (T.br (decide ((0 : Int) ≤ k) &&
    decide (k < (↑((l.getD i.toNat undef).cells.getD (4 : Nat) undef).toL.length : Int)) &&
  fitsC Tryz.prog (95 : Nat) (((l.getD i.toNat undef).cells.getD (4 : Nat) undef).toL.getD k.toNat undef))
              (T.br (decide
  ((2000 : Int) <
    IntKind.i64.wrap
      (IntKind.i64.wrap
          (n +
            (↑((((l.getD i.toNat undef).cells.getD (4 : Nat) undef).toL.getD k.toNat undef).cells.getD (3 : Nat)
                      undef).toL.length :
              Int)) +
        (↑((((l.getD i.toNat undef).cells.getD (4 : Nat) undef).toL.getD k.toNat undef).cells.getD (4 : Nat)
                  undef).toL.length :
          Int))))
                (T.leaf ((X.ret,
  [AV.lst 5 l Tl.open_, AV.bool false,
    AV.int IntKind.i64
      (IntKind.i64.wrap
        (IntKind.i64.wrap
            (n +
              (↑((((l.getD i.toNat undef).cells.getD 4 undef).toL.getD k.toNat undef).cells.getD 3 undef).toL.length :
                Int)) +
          (↑((((l.getD i.toNat undef).cells.getD 4 undef).toL.getD k.toNat undef).cells.getD 4 undef).toL.length :
            Int))),
    AV.int IntKind.i64 i, AV.int IntKind.i64 k],
  [])))
                (T.leaf ((X.normal,
  [AV.lst 5 l Tl.open_, AV.fsl 0 [],
    AV.int IntKind.i64
      (IntKind.i64.wrap
        (IntKind.i64.wrap
            (n +
              (↑((((l.getD i.toNat undef).cells.getD 4 undef).toL.getD k.toNat undef).cells.getD 3 undef).toL.length :
                Int)) +
          (↑((((l.getD i.toNat undef).cells.getD 4 undef).toL.getD k.toNat undef).cells.getD 4 undef).toL.length :
            Int))),
    AV.int IntKind.i64 i, AV.int IntKind.i64 (IntKind.i64.wrap (k + 1))],
  []))))
              T.fail)
            T.fail)
          T.fail)
        T.fail)
      (T.leaf ((X.exit 2,
  [AV.lst 5 l Tl.open_, AV.fsl 0 [], AV.int IntKind.i64 n, AV.int IntKind.i64 i, AV.int IntKind.i64 k], []))))
    T.fail) := by kernel_rfl
theorem p37on (l : List tyK.I) (n i m : Int) : obsK (XN 37 [8, 12, 22, 31, 39, 47, 74]) (kAt [1,1,1,0,1,0,0,1,0,0,1,1] (st37i l i 0 n) [] .normal [(0, encL tyK l), (3, .int .i64 m), (4, .int .i64 i)] []) 75 (sub (bodyOf Tryz.f37) [1,1,1,0,1,0,0]) [1,1,1,0,1,0,0] (frm [(0, encL tyK l), (3, .int .i64 n), (4, .int .i64 i)]) [] [0,2,3,4] =
  (T.br (decide (i < (↑(List.map tyK.elem l).length : Int)))
    (T.br (decide ((0 : Int) ≤ i) && decide (i < (↑(List.map tyK.elem l).length : Int)) &&
  fitsC Tryz.prog (187 : Nat) ((List.map tyK.elem l).getD i.toNat undef))
      (T.br (decide
  ((300 : Int) < (↑(((List.map tyK.elem l).getD i.toNat undef).cells.getD (2 : Nat) undef).toL.length : Int)))
        (T.br true
          (T.br true
            (T.leaf ((X.ret,
  [AV.lst 5 (List.map tyK.elem l) Tl.open_, AV.bool false, AV.int IntKind.i64 n, AV.int IntKind.i64 i], [])))
            (T.br (askS
  [AV.lst (5 : Nat) (List.map tyK.elem l) Tl.open_, AV.int IntKind.i64 n, AV.int IntKind.i64 i,
    AV.int IntKind.i64 (0 : Int)]
  [AV.lst (5 : Nat) (List.map tyK.elem l) Tl.open_, AV.int IntKind.i64 n, AV.int IntKind.i64 i,
    AV.int IntKind.i64 (↑(0 : Nat) : Int)]
  [] [])
              (T.leaf ((X.normal,
  [AV.lst 5 (List.map tyK.elem l) Tl.open_, AV.fsl 0 [], AV.int IntKind.i64 m,
    AV.int IntKind.i64 (IntKind.i64.wrap (i + 1))],
  [])))
              T.fail))
          (T.br (decide ((0 : Int) ≤ i) && decide (i < (↑(List.map tyK.elem l).length : Int)) &&
  fitsC Tryz.prog (187 : Nat) ((List.map tyK.elem l).getD i.toNat undef))
            (T.br (decide
  ((40 : Int) < (↑(((List.map tyK.elem l).getD i.toNat undef).cells.getD (4 : Nat) undef).toL.length : Int)))
              (T.leaf ((X.ret,
  [AV.lst 5 (List.map tyK.elem l) Tl.open_, AV.bool false, AV.int IntKind.i64 n, AV.int IntKind.i64 i], [])))
              (T.br (askS
  [AV.lst (5 : Nat) (List.map tyK.elem l) Tl.open_, AV.int IntKind.i64 n, AV.int IntKind.i64 i,
    AV.int IntKind.i64 (0 : Int)]
  [AV.lst (5 : Nat) (List.map tyK.elem l) Tl.open_, AV.int IntKind.i64 n, AV.int IntKind.i64 i,
    AV.int IntKind.i64 (↑(0 : Nat) : Int)]
  [] [])
                (T.leaf ((X.normal,
  [AV.lst 5 (List.map tyK.elem l) Tl.open_, AV.fsl 0 [], AV.int IntKind.i64 m,
    AV.int IntKind.i64 (IntKind.i64.wrap (i + 1))],
  [])))
                T.fail))
            T.fail))
        (T.br (decide ((0 : Int) ≤ i) && decide (i < (↑(List.map tyK.elem l).length : Int)) &&
  fitsC Tryz.prog (187 : Nat) ((List.map tyK.elem l).getD i.toNat undef))
          (T.br (decide
  ((20 : Int) < (↑(((List.map tyK.elem l).getD i.toNat undef).cells.getD (3 : Nat) undef).toL.length : Int)))
            (T.br true
              (T.leaf ((X.ret,
  [AV.lst 5 (List.map tyK.elem l) Tl.open_, AV.bool false, AV.int IntKind.i64 n, AV.int IntKind.i64 i], [])))
              (T.br (askS
  [AV.lst (5 : Nat) (List.map tyK.elem l) Tl.open_, AV.int IntKind.i64 n, AV.int IntKind.i64 i,
    AV.int IntKind.i64 (0 : Int)]
  [AV.lst (5 : Nat) (List.map tyK.elem l) Tl.open_, AV.int IntKind.i64 n, AV.int IntKind.i64 i,
    AV.int IntKind.i64 (↑(0 : Nat) : Int)]
  [] [])
                (T.leaf ((X.normal,
  [AV.lst 5 (List.map tyK.elem l) Tl.open_, AV.fsl 0 [], AV.int IntKind.i64 m,
    AV.int IntKind.i64 (IntKind.i64.wrap (i + 1))],
  [])))
                T.fail))
            (T.br (decide ((0 : Int) ≤ i) && decide (i < (↑(List.map tyK.elem l).length : Int)) &&
  fitsC Tryz.prog (187 : Nat) ((List.map tyK.elem l).getD i.toNat undef))
              (T.br (decide
  ((40 : Int) < (↑(((List.map tyK.elem l).getD i.toNat undef).cells.getD (4 : Nat) undef).toL.length : Int)))
                (T.leaf ((X.ret,
  [AV.lst 5 (List.map tyK.elem l) Tl.open_, AV.bool false, AV.int IntKind.i64 n, AV.int IntKind.i64 i], [])))
                (T.br (askS
  [AV.lst (5 : Nat) (List.map tyK.elem l) Tl.open_, AV.int IntKind.i64 n, AV.int IntKind.i64 i,
    AV.int IntKind.i64 (0 : Int)]
  [AV.lst (5 : Nat) (List.map tyK.elem l) Tl.open_, AV.int IntKind.i64 n, AV.int IntKind.i64 i,
    AV.int IntKind.i64 (↑(0 : Nat) : Int)]
  [] [])
                  (T.leaf ((X.normal,
  [AV.lst 5 (List.map tyK.elem l) Tl.open_, AV.fsl 0 [], AV.int IntKind.i64 m,
    AV.int IntKind.i64 (IntKind.i64.wrap (i + 1))],
  [])))
                  T.fail))
              T.fail))
          T.fail))
      T.fail)
    (T.leaf ((X.exit 0,
  [AV.lst 5 (List.map tyK.elem l) Tl.open_, AV.fsl 0 [], AV.int IntKind.i64 n, AV.int IntKind.i64 i], [])))) := by kernel_rfl
theorem p37or (l : List tyK.I) (n i : Int) : obsK (XN 37 [8, 12, 22, 31, 39, 47, 74]) (kAt [1,1,1,0,1,0,0,1,0,0,1,1] (st37i l i 0 n) [] .ret [(2, .bool false)] []) 75 (sub (bodyOf Tryz.f37) [1,1,1,0,1,0,0]) [1,1,1,0,1,0,0] (frm [(0, encL tyK l), (3, .int .i64 n), (4, .int .i64 i)]) [] [0,2,3,4] =
  (T.br (decide (i < (↑(List.map tyK.elem l).length : Int)))
    (T.br (decide ((0 : Int) ≤ i) && decide (i < (↑(List.map tyK.elem l).length : Int)) &&
  fitsC Tryz.prog (187 : Nat) ((List.map tyK.elem l).getD i.toNat undef))
      (T.br (decide
  ((300 : Int) < (↑(((List.map tyK.elem l).getD i.toNat undef).cells.getD (2 : Nat) undef).toL.length : Int)))
        (T.br true
          (T.br true
            (T.leaf ((X.ret,
  [AV.lst 5 (List.map tyK.elem l) Tl.open_, AV.bool false, AV.int IntKind.i64 n, AV.int IntKind.i64 i], [])))
            (T.br (askS
  [AV.lst (5 : Nat) (List.map tyK.elem l) Tl.open_, AV.int IntKind.i64 n, AV.int IntKind.i64 i,
    AV.int IntKind.i64 (0 : Int)]
  [AV.lst (5 : Nat) (List.map tyK.elem l) Tl.open_, AV.int IntKind.i64 n, AV.int IntKind.i64 i,
    AV.int IntKind.i64 (↑(0 : Nat) : Int)]
  [] [])
              (T.leaf ((X.ret, [AV.fsl 0 [], AV.bool false, AV.fsl 0 [], AV.fsl 0 []], [])))
              T.fail))
          (T.br (decide ((0 : Int) ≤ i) && decide (i < (↑(List.map tyK.elem l).length : Int)) &&
  fitsC Tryz.prog (187 : Nat) ((List.map tyK.elem l).getD i.toNat undef))
            (T.br (decide
  ((40 : Int) < (↑(((List.map tyK.elem l).getD i.toNat undef).cells.getD (4 : Nat) undef).toL.length : Int)))
              (T.leaf ((X.ret,
  [AV.lst 5 (List.map tyK.elem l) Tl.open_, AV.bool false, AV.int IntKind.i64 n, AV.int IntKind.i64 i], [])))
              (T.br (askS
  [AV.lst (5 : Nat) (List.map tyK.elem l) Tl.open_, AV.int IntKind.i64 n, AV.int IntKind.i64 i,
    AV.int IntKind.i64 (0 : Int)]
  [AV.lst (5 : Nat) (List.map tyK.elem l) Tl.open_, AV.int IntKind.i64 n, AV.int IntKind.i64 i,
    AV.int IntKind.i64 (↑(0 : Nat) : Int)]
  [] [])
                (T.leaf ((X.ret, [AV.fsl 0 [], AV.bool false, AV.fsl 0 [], AV.fsl 0 []], [])))
                T.fail))
            T.fail))
        (T.br (decide ((0 : Int) ≤ i) && decide (i < (↑(List.map tyK.elem l).length : Int)) &&
  fitsC Tryz.prog (187 : Nat) ((List.map tyK.elem l).getD i.toNat undef))
          (T.br (decide
  ((20 : Int) < (↑(((List.map tyK.elem l).getD i.toNat undef).cells.getD (3 : Nat) undef).toL.length : Int)))
            (T.br true
              (T.leaf ((X.ret,
  [AV.lst 5 (List.map tyK.elem l) Tl.open_, AV.bool false, AV.int IntKind.i64 n, AV.int IntKind.i64 i], [])))
              (T.br (askS
  [AV.lst (5 : Nat) (List.map tyK.elem l) Tl.open_, AV.int IntKind.i64 n, AV.int IntKind.i64 i,
    AV.int IntKind.i64 (0 : Int)]
  [AV.lst (5 : Nat) (List.map tyK.elem l) Tl.open_, AV.int IntKind.i64 n, AV.int IntKind.i64 i,
    AV.int IntKind.i64 (↑(0 : Nat) : Int)]
  [] [])
                (T.leaf ((X.ret, [AV.fsl 0 [], AV.bool false, AV.fsl 0 [], AV.fsl 0 []], [])))
                T.fail))
            (T.br (decide ((0 : Int) ≤ i) && decide (i < (↑(List.map tyK.elem l).length : Int)) &&
  fitsC Tryz.prog (187 : Nat) ((List.map tyK.elem l).getD i.toNat undef))
              (T.br (decide
  ((40 : Int) < (↑(((List.map tyK.elem l).getD i.toNat undef).cells.getD (4 : Nat) undef).toL.length : Int)))
                (T.leaf ((X.ret,
  [AV.lst 5 (List.map tyK.elem l) Tl.open_, AV.bool false, AV.int IntKind.i64 n, AV.int IntKind.i64 i], [])))
                (T.br (askS
  [AV.lst (5 : Nat) (List.map tyK.elem l) Tl.open_, AV.int IntKind.i64 n, AV.int IntKind.i64 i,
    AV.int IntKind.i64 (0 : Int)]
  [AV.lst (5 : Nat) (List.map tyK.elem l) Tl.open_, AV.int IntKind.i64 n, AV.int IntKind.i64 i,
    AV.int IntKind.i64 (↑(0 : Nat) : Int)]
  [] [])
                  (T.leaf ((X.ret, [AV.fsl 0 [], AV.bool false, AV.fsl 0 [], AV.fsl 0 []], [])))
                  T.fail))
              T.fail))
          T.fail))
      T.fail)
    (T.leaf ((X.exit 0,
  [AV.lst 5 (List.map tyK.elem l) Tl.open_, AV.fsl 0 [], AV.int IntKind.i64 n, AV.int IntKind.i64 i], [])))) := by kernel_rfl
theorem p37ox (l : List tyK.I) (n i : Int) : obsK (XN 37 [8, 12, 22, 31, 39, 47, 74]) (kNo [1,1,1,0,1,0,0,1,0,0,1,1]) 75 (sub (bodyOf Tryz.f37) [1,1,1,0,1,0,0]) [1,1,1,0,1,0,0] (frm [(0, encL tyK l), (3, .int .i64 n), (4, .int .i64 i)]) [] [0,2,3,4] =
  (T.br (decide (i < (↑(List.map tyK.elem l).length : Int)))
    (T.br (decide ((0 : Int) ≤ i) && decide (i < (↑(List.map tyK.elem l).length : Int)) &&
  fitsC Tryz.prog (187 : Nat) ((List.map tyK.elem l).getD i.toNat undef))
      (T.br (decide
  ((300 : Int) < (↑(((List.map tyK.elem l).getD i.toNat undef).cells.getD (2 : Nat) undef).toL.length : Int)))
        (T.br true
          (T.br true
            (T.leaf ((X.ret,
  [AV.lst 5 (List.map tyK.elem l) Tl.open_, AV.bool false, AV.int IntKind.i64 n, AV.int IntKind.i64 i], [])))
            T.fail)
          (T.br (decide ((0 : Int) ≤ i) && decide (i < (↑(List.map tyK.elem l).length : Int)) &&
  fitsC Tryz.prog (187 : Nat) ((List.map tyK.elem l).getD i.toNat undef))
            (T.br (decide
  ((40 : Int) < (↑(((List.map tyK.elem l).getD i.toNat undef).cells.getD (4 : Nat) undef).toL.length : Int)))
              (T.leaf ((X.ret,
  [AV.lst 5 (List.map tyK.elem l) Tl.open_, AV.bool false, AV.int IntKind.i64 n, AV.int IntKind.i64 i], [])))
              T.fail)
            T.fail))
        (T.br (decide ((0 : Int) ≤ i) && decide (i < (↑(List.map tyK.elem l).length : Int)) &&
  fitsC Tryz.prog (187 : Nat) ((List.map tyK.elem l).getD i.toNat undef))
          (T.br (decide
  ((20 : Int) < (↑(((List.map tyK.elem l).getD i.toNat undef).cells.getD (3 : Nat) undef).toL.length : Int)))
            (T.br true
              (T.leaf ((X.ret,
  [AV.lst 5 (List.map tyK.elem l) Tl.open_, AV.bool false, AV.int IntKind.i64 n, AV.int IntKind.i64 i], [])))
              T.fail)
            (T.br (decide ((0 : Int) ≤ i) && decide (i < (↑(List.map tyK.elem l).length : Int)) &&
  fitsC Tryz.prog (187 : Nat) ((List.map tyK.elem l).getD i.toNat undef))
              (T.br (decide
  ((40 : Int) < (↑(((List.map tyK.elem l).getD i.toNat undef).cells.getD (4 : Nat) undef).toL.length : Int)))
                (T.leaf ((X.ret,
  [AV.lst 5 (List.map tyK.elem l) Tl.open_, AV.bool false, AV.int IntKind.i64 n, AV.int IntKind.i64 i], [])))
                T.fail)
              T.fail))
          T.fail))
      T.fail)
    (T.leaf ((X.exit 0,
  [AV.lst 5 (List.map tyK.elem l) Tl.open_, AV.fsl 0 [], AV.int IntKind.i64 n, AV.int IntKind.i64 i], [])))) := by kernel_rfl
theorem p37n (l : List tyK.I) : runV (XN 37 [8, 12, 22, 31, 39, 47, 74]) (kAt [1,1,1,0,1] (st37o l 0 0) [] .normal [] []) Tryz.f37 (bodyOf Tryz.f37) [encL tyK l] =
  (T.br (decide ((40 : Int) < (↑(List.map tyK.elem l).length : Int)))
    (T.leaf (AV.bool false))
    (T.br (askS
  [AV.lst (5 : Nat) (List.map tyK.elem l) Tl.open_, AV.int IntKind.i64 (0 : Int), AV.int IntKind.i64 (0 : Int)]
  [AV.lst (5 : Nat) (List.map tyK.elem l) Tl.open_, AV.int IntKind.i64 (0 : Int), AV.int IntKind.i64 (↑(0 : Nat) : Int)]
  [] [])
      (T.leaf (AV.bool true))
      T.fail)) := by kernel_rfl
theorem p37r (l : List tyK.I) : runV (XN 37 [8, 12, 22, 31, 39, 47, 74]) (kAt [1,1,1,0,1] (st37o l 0 0) [] .ret [(2, .bool false)] []) Tryz.f37 (bodyOf Tryz.f37) [encL tyK l] =
  (T.br (decide ((40 : Int) < (↑(List.map tyK.elem l).length : Int)))
    (T.leaf (AV.bool false))
    (T.br (askS
  [AV.lst (5 : Nat) (List.map tyK.elem l) Tl.open_, AV.int IntKind.i64 (0 : Int), AV.int IntKind.i64 (0 : Int)]
  [AV.lst (5 : Nat) (List.map tyK.elem l) Tl.open_, AV.int IntKind.i64 (0 : Int), AV.int IntKind.i64 (↑(0 : Nat) : Int)]
  [] [])
      (T.leaf (AV.bool false))
      T.fail)) := by kernel_rfl
abbrev PI37 : List Nat := [1,1,1,0,1,0,0,1,0,0,1,1,0,0]
theorem go37i (l : List tyK.I) (j : Nat) (hj : j < l.length) (c0 c1 : ByteArray) (c2 : List tyC.I) (c3 : List tyF.I) (c4 : List tyM.I) (hx : l.getD j tyK.zero = (c0, c1, c2, c3, c4)) (hl : c4.length < 1000000000000000) (k : Nat) (n : Int) (hk : k < c4.length) :
    (∃ n', Tri E0 75 [] (sub (bodyOf Tryz.f37) [1,1,1,0,1,0,0,1,0,0,1,1,0,0]) (frm (st37i l j k n)) [] .normal (frm (st37i l j (k + 1) n')) []) ∨ Tri E0 75 [] (sub (bodyOf Tryz.f37) [1,1,1,0,1,0,0,1,0,0,1,1,0,0]) (frm (st37i l j k n)) [] .ret (frm [(2, .bool false)]) [] := by
  have ht := p37i (l.map tyK.elem) n j k
  have f0 : fitsC Tryz.prog 187 (tyK.elem tyK.zero) = true := by kernel_rfl
  have f1 : fitsC Tryz.prog 95 (tyM.elem tyM.zero) = true := by kernel_rfl
  have e4 : (((l.map tyK.elem).getD (j : Int).toNat undef).cells.getD 4 undef).toL = c4.map tyM.elem := by rw [Int.toNat_natCast, getD_elem hj, hx]; rfl
  rw [idx_ok hj f0, e4, idx_ok hk f1, lt_ok hk, Int.toNat_natCast, wrap_next (by omega)] at ht
  generalize IntKind.i64.wrap (IntKind.i64.wrap (n + (((((c4.map tyM.elem).getD k undef).cells.getD 3 undef).toL.length : Nat) : Int)) + (((((c4.map tyM.elem).getD k undef).cells.getD 4 undef).toL.length : Nat) : Int)) = m at ht
  generalize decide ((2000 : Int) < m) = u at ht
  cases u with
  | true => exact .inr (Tri.seen (X := XN 37 [8, 12, 22, 31, 39, 47, 74]) g0 (noCalls fun _ _ _ => rfl) KOK.none rfl (congrArg T.run ht) (by
      intro q hq
      simp only [List.mem_cons, List.not_mem_nil, or_false] at hq
      rcases hq with rfl; rfl))
  | false => exact .inl ⟨m, Tri.seen (X := XN 37 [8, 12, 22, 31, 39, 47, 74]) g0 (noCalls fun _ _ _ => rfl) KOK.none rfl (congrArg T.run ht) (by
      intro q hq
      simp only [st37i, List.mem_cons, List.not_mem_nil, or_false] at hq
      rcases hq with rfl | rfl | rfl | rfl <;> rfl)⟩
theorem out37i (l : List tyK.I) (j : Nat) (hj : j < l.length) (c0 c1 : ByteArray) (c2 : List tyC.I) (c3 : List tyF.I) (c4 : List tyM.I) (hx : l.getD j tyK.zero = (c0, c1, c2, c3, c4)) (n : Int) : Tri E0 75 [] (sub (bodyOf Tryz.f37) [1,1,1,0,1,0,0,1,0,0,1,1,0,0]) (frm (st37i l j c4.length n)) [] (.exit 2) (frm [(0, encL tyK l), (3, .int .i64 n), (4, .int .i64 j)]) [] := by
  have ht := p37i (l.map tyK.elem) n j c4.length
  have f0 : fitsC Tryz.prog 187 (tyK.elem tyK.zero) = true := by kernel_rfl
  have e4 : (((l.map tyK.elem).getD (j : Int).toNat undef).cells.getD 4 undef).toL = c4.map tyM.elem := by rw [Int.toNat_natCast, getD_elem hj, hx]; rfl
  rw [idx_ok hj f0, e4, lt_no] at ht
  exact Tri.seen (X := XN 37 [8, 12, 22, 31, 39, 47, 74]) g0 (noCalls fun _ _ _ => rfl) KOK.none rfl (congrArg T.run ht) (by
    intro q hq
    simp only [List.mem_cons, List.not_mem_nil, or_false] at hq
    rcases hq with rfl | rfl | rfl <;> rfl)
theorem go37o (l : List tyK.I) (hl : l.length < 1000000000000000) (j : Nat) (n : Int) (hj : j < l.length) (ho : tyK.okay (l.getD j tyK.zero)) :
    (∃ n', Tri E0 75 [] (sub (bodyOf Tryz.f37) [1,1,1,0,1,0,0]) (frm (st37o l j n)) [] .normal (frm (st37o l (j + 1) n')) []) ∨ Tri E0 75 [] (sub (bodyOf Tryz.f37) [1,1,1,0,1,0,0]) (frm (st37o l j n)) [] .ret (frm [(2, .bool false)]) [] := by
  obtain ⟨⟨c0, c1, c2, c3, c4⟩, hx⟩ : ∃ x : tyK.I, l.getD j tyK.zero = x := ⟨_, rfl⟩
  rw [hx] at ho
  have hli : c4.length < 1000000000000000 := Nat.lt_of_le_of_lt ho.2.2.2.2.1 (by decide)
  have f0 : fitsC Tryz.prog 187 (tyK.elem tyK.zero) = true := by kernel_rfl
  have hS : (askS
  [AV.lst (5 : Nat) (List.map tyK.elem l) Tl.open_, AV.int IntKind.i64 n, AV.int IntKind.i64 (j : Int),
    AV.int IntKind.i64 (0 : Int)]
  [AV.lst (5 : Nat) (List.map tyK.elem l) Tl.open_, AV.int IntKind.i64 n, AV.int IntKind.i64 (j : Int),
    AV.int IntKind.i64 (↑(0 : Nat) : Int)]
  [] []) = true := askS_self _ _
  have hsl : ∀ (m : Int) (i : Int), ∀ q, q ∈ [(0, encL tyK l), (3, AV.int .i64 m), (4, AV.int .i64 i)] → frm ([0,2,3,4].zip [encL tyK l, .fsl 0 [], AV.int .i64 m, AV.int .i64 i]) q.1 = q.2 := by
    intro m i q hq
    simp only [List.mem_cons, List.not_mem_nil, or_false] at hq
    rcases hq with rfl | rfl | rfl <;> rfl
  have hrt : ∀ (m : Int) (i : Int), ∀ q, q ∈ [(2, AV.bool false)] → frm ([0,2,3,4].zip [encL tyK l, .bool false, AV.int .i64 m, AV.int .i64 i]) q.1 = q.2 := by
    intro m i q hq
    simp only [List.mem_cons, List.not_mem_nil, or_false] at hq
    rcases hq with rfl; rfl
  rcases rounds_or (E := E0) (N := 75) (h0 := []) (c := sub (bodyOf Tryz.f37) [1,1,1,0,1,0,0,1,0,0,1,1,0,0]) (n := c4.length) (fun _ _ => True) (fun k n => st37i l j k n) [] [(2, .bool false)] 2 (fun n => [(0, encL tyK l), (3, .int .i64 n), (4, .int .i64 j)]) (fun k m hk _ => (go37i l j hj c0 c1 c2 c3 c4 hx hli k m hk).imp (fun ⟨s', h⟩ => ⟨s', h, trivial⟩) id) (fun m _ => out37i l j hj c0 c1 c2 c3 c4 hx m) c4.length 0 n (by omega) trivial with ⟨m, hT, _⟩ | hT
  · have hk : KOK E0 75 [] (bodyOf Tryz.f37) (kAt [1,1,1,0,1,0,0,1,0,0,1,1] (st37i l j 0 n) [] .normal [(0, encL tyK l), (3, .int .i64 m), (4, .int .i64 j)] []) := kAt_ok (Tri.block (id := 2) (Tri.loop hT))
    have ht := p37on l n j m
    rw [idx_ok hj f0, lt_ok hj, wrap_next (by omega), hS] at ht
    generalize decide ((300 : Int) < (((((l.map tyK.elem).getD (j : Int).toNat undef).cells.getD 2 undef).toL.length : Nat) : Int)) = u1 at ht
    generalize decide ((20 : Int) < (((((l.map tyK.elem).getD (j : Int).toNat undef).cells.getD 3 undef).toL.length : Nat) : Int)) = u2 at ht
    generalize decide ((40 : Int) < (((((l.map tyK.elem).getD (j : Int).toNat undef).cells.getD 4 undef).toL.length : Nat) : Int)) = u3 at ht
    cases u1 <;> cases u2 <;> cases u3 <;> first | exact .inl ⟨m, Tri.seen (X := XN 37 [8, 12, 22, 31, 39, 47, 74]) g0 (noCalls fun _ _ _ => rfl) hk rfl (congrArg T.run ht) (hsl _ _)⟩ | exact .inr (Tri.seen (X := XN 37 [8, 12, 22, 31, 39, 47, 74]) g0 (noCalls fun _ _ _ => rfl) hk rfl (congrArg T.run ht) (hrt _ _))
  · have hk : KOK E0 75 [] (bodyOf Tryz.f37) (kAt [1,1,1,0,1,0,0,1,0,0,1,1] (st37i l j 0 n) [] .ret [(2, .bool false)] []) := kAt_ok (Tri.block (id := 2) (Tri.loop hT))
    have ht := p37or l n j
    rw [idx_ok hj f0, lt_ok hj, hS] at ht
    generalize decide ((300 : Int) < (((((l.map tyK.elem).getD (j : Int).toNat undef).cells.getD 2 undef).toL.length : Nat) : Int)) = u1 at ht
    generalize decide ((20 : Int) < (((((l.map tyK.elem).getD (j : Int).toNat undef).cells.getD 3 undef).toL.length : Nat) : Int)) = u2 at ht
    generalize decide ((40 : Int) < (((((l.map tyK.elem).getD (j : Int).toNat undef).cells.getD 4 undef).toL.length : Nat) : Int)) = u3 at ht
    cases u1 <;> cases u2 <;> cases u3 <;> exact .inr (Tri.seen (X := XN 37 [8, 12, 22, 31, 39, 47, 74]) g0 (noCalls fun _ _ _ => rfl) hk rfl (congrArg T.run ht) (by
      intro q hq
      simp only [List.mem_cons, List.not_mem_nil, or_false] at hq
      rcases hq with rfl; rfl))
theorem out37o (l : List tyK.I) (n : Int) : Tri E0 75 [] (sub (bodyOf Tryz.f37) [1,1,1,0,1,0,0]) (frm (st37o l l.length n)) [] (.exit 0) (frm []) [] := by
  have ht := p37ox l n l.length
  rw [lt_no] at ht
  exact Tri.seen (X := XN 37 [8, 12, 22, 31, 39, 47, 74]) g0 (noCalls fun _ _ _ => rfl) (kNo_ok (p := [1,1,1,0,1,0,0,1,0,0,1,1])) rfl (congrArg T.run ht) nofun
theorem con37 (l : List tyK.I) (hl : l.length < 1000000000000000) (ho : ∀ x, x ∈ l → tyK.okay x) : ∃ b, ∀ h, Con E0 37 [encL tyK l] h (.bool b) h := by
  have fin : ∀ {K : Known} {b : Bool}, KOK E0 75 [] (bodyOf Tryz.f37) K → (runV (XN 37 [8, 12, 22, 31, 39, 47, 74]) K Tryz.f37 (bodyOf Tryz.f37) [encL tyK l]).run = .ok (.bool b) → ∃ b, ∀ h, Con E0 37 [encL tyK l] h (.bool b) h := fun hk hr =>
    ⟨_, fun h => Con.pureV (X := XN 37 [8, 12, 22, 31, 39, 47, 74]) g0 noG0 (noCalls fun _ _ _ => rfl) (fn := Tryz.f37) Tryz.func37 (c := bodyOf Tryz.f37) rfl rfl (args := [encL tyK l]) hk (by simp only [noRefs, encL_noRef, Bool.and_true]) hr (Le.refl _) rfl h⟩
  have hS : (askS
  [AV.lst (5 : Nat) (List.map tyK.elem l) Tl.open_, AV.int IntKind.i64 (0 : Int), AV.int IntKind.i64 (0 : Int)]
  [AV.lst (5 : Nat) (List.map tyK.elem l) Tl.open_, AV.int IntKind.i64 (0 : Int), AV.int IntKind.i64 (↑(0 : Nat) : Int)]
  [] []) = true := askS_self _ _
  have hgo : ∀ j n, j < l.length → True → (∃ n', Tri E0 75 [] (sub (bodyOf Tryz.f37) [1,1,1,0,1,0,0]) (frm (st37o l j n)) [] .normal (frm (st37o l (j + 1) n')) [] ∧ True) ∨ Tri E0 75 [] (sub (bodyOf Tryz.f37) [1,1,1,0,1,0,0]) (frm (st37o l j n)) [] .ret (frm [(2, .bool false)]) [] := fun j n hj _ =>
    (go37o l hl j n hj (ho _ (by rw [List.getD_eq_getElem?_getD, List.getElem?_eq_getElem hj]; exact List.getElem_mem hj))).imp (fun ⟨n', h⟩ => ⟨n', h, trivial⟩) id
  rcases rounds_or (E := E0) (N := 75) (h0 := []) (c := sub (bodyOf Tryz.f37) [1,1,1,0,1,0,0]) (n := l.length) (fun _ _ => True) (st37o l) [] [(2, .bool false)] 0 (fun _ => []) hgo (fun n _ => out37o l n) l.length 0 0 (by omega) trivial with ⟨n, hT, _⟩ | hT
  · have hk : KOK E0 75 [] (bodyOf Tryz.f37) (kAt [1,1,1,0,1] (st37o l 0 0) [] .normal [] []) := kAt_ok (Tri.block (id := 0) (Tri.loop hT))
    have ht := congrArg T.run (p37n l)
    rw [hS] at ht
    generalize decide ((40 : Int) < ((List.map tyK.elem l).length : Nat)) = u at ht
    cases u <;> exact fin hk ht
  · have hk : KOK E0 75 [] (bodyOf Tryz.f37) (kAt [1,1,1,0,1] (st37o l 0 0) [] .ret [(2, .bool false)] []) := kAt_ok (Tri.block (id := 0) (Tri.loop hT))
    have ht := congrArg T.run (p37r l)
    rw [hS] at ht
    generalize decide ((40 : Int) < ((List.map tyK.elem l).length : Nat)) = u at ht
    cases u <;> exact fin hk ht
end Go.Proofs.YtcocmlmligjjcaaGreatDoor.AM
