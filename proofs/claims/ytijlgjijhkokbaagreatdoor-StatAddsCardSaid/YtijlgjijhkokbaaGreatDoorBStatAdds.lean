/- StatAdds: the program's and the document's sums of many are one and the same, of any list and of it backwards; each function by the symbolic machine's tree of it, loops by induction. -/
import Derived.Test.YtijlgjijhkokbaaGreatDoorB0
import Derived.Test.YtijlgjijhkokbaaGreatDoorB1
import Derived.Test.YtijlgjijhkokbaaGreatDoorB2
import Derived.Test.YtijlgjijhkokbaaGreatDoorS10
import Derived.Test.YtijlgjijhkokbaaGreatDoorRows
import Derived.LaidSub
import Derived.WideShapes
namespace Go.Proofs.YtijlgjijhkokbaaGreatDoor.AM
open Go.Proofs Go.RowKit Go.WideShapes
set_option linter.unusedVariables false
set_option linter.unusedSimpArgs false
def encS (s : Nat → Int) : AV := .agg [.int .i64 (s 0), .int .i64 (s 1), .int .i64 (s 2), .int .i64 (s 3), .int .i64 (s 4), .int .i64 (s 5), .int .i64 (s 6), .int .i64 (s 7), .int .i64 (s 8), .int .i64 (s 9)]
noncomputable def E0 : Env := { P := Tryz.prog, C := fun _ _ => none, G := fun g => if g = 0 then some formsL else none, M := 1000, L := fun _ _ => false, LC := fun _ => false, S := fun t => !Tryz.prog.stoodInHeld t }
noncomputable def X5 : SX := { E := E0, f := 5, con := fun _ => false, split := fun _ => false, call := fun _ _ _ => .fail }
noncomputable def X7 : SX := { E := E0, f := 7, con := fun _ => false, split := fun d => [9, 14].contains d, call := fun _ _ _ => .fail }
noncomputable def X8 : SX := { E := E0, f := 8, con := fun _ => false, split := fun d => [10, 73, 79].contains d, call := fun _ _ _ => .fail }
noncomputable def b5 : Code := (Tryz.f5.body).getD .skip
noncomputable def b6 : Code := (Tryz.f6.body).getD .skip
noncomputable def b7 : Code := (Tryz.f7.body).getD .skip
noncomputable def b8 : Code := (Tryz.f8.body).getD .skip
noncomputable def b3 : Code := (Tryz.f3.body).getD .skip
theorem t5 (s : Nat → Int) : runF X5 (fun _ => none) Tryz.f5 b5 [encS s] [] =
  (T.leaf (AV.agg
    [AV.int IntKind.i64 (s 0), AV.int IntKind.i64 (s 1), AV.int IntKind.i64 (s 2), AV.int IntKind.i64 (s 3),
      AV.int IntKind.i64 (s 4), AV.int IntKind.i64 (s 5), AV.int IntKind.i64 (s 6), AV.int IntKind.i64 (s 7),
      AV.int IntKind.i64 (s 8), AV.int IntKind.i64 (s 9)],
  [Blk.var
      [AV.int IntKind.i64 (s 0), AV.int IntKind.i64 (s 1), AV.int IntKind.i64 (s 2), AV.int IntKind.i64 (s 3),
        AV.int IntKind.i64 (s 4), AV.int IntKind.i64 (s 5), AV.int IntKind.i64 (s 6), AV.int IntKind.i64 (s 7),
        AV.int IntKind.i64 (s 8), AV.int IntKind.i64 (s 9)],
    Blk.var
      [AV.int IntKind.i64 (s 0), AV.int IntKind.i64 (s 1), AV.int IntKind.i64 (s 2), AV.int IntKind.i64 (s 3),
        AV.int IntKind.i64 (s 4), AV.int IntKind.i64 (s 5), AV.int IntKind.i64 (s 6), AV.int IntKind.i64 (s 7),
        AV.int IntKind.i64 (s 8), AV.int IntKind.i64 (s 9)]])) := by kernel_rfl
theorem t6 (s : Nat → Int) : runF { X5 with f := 6 } (fun _ => none) Tryz.f6 b6 [encS s] [] =
  (T.leaf (AV.agg
    [AV.int IntKind.i64 (s 0), AV.int IntKind.i64 (s 1), AV.int IntKind.i64 (s 2), AV.int IntKind.i64 (s 3),
      AV.int IntKind.i64 (s 4), AV.int IntKind.i64 (s 5), AV.int IntKind.i64 (s 6), AV.int IntKind.i64 (s 7),
      AV.int IntKind.i64 (s 8), AV.int IntKind.i64 (s 9)],
  [Blk.var
      [AV.int IntKind.i64 (s 0), AV.int IntKind.i64 (s 1), AV.int IntKind.i64 (s 2), AV.int IntKind.i64 (s 3),
        AV.int IntKind.i64 (s 4), AV.int IntKind.i64 (s 5), AV.int IntKind.i64 (s 6), AV.int IntKind.i64 (s 7),
        AV.int IntKind.i64 (s 8), AV.int IntKind.i64 (s 9)],
    Blk.var
      [AV.int IntKind.i64 (s 0), AV.int IntKind.i64 (s 1), AV.int IntKind.i64 (s 2), AV.int IntKind.i64 (s 3),
        AV.int IntKind.i64 (s 4), AV.int IntKind.i64 (s 5), AV.int IntKind.i64 (s 6), AV.int IntKind.i64 (s 7),
        AV.int IntKind.i64 (s 8), AV.int IntKind.i64 (s 9)]])) := by kernel_rfl
theorem t7 (l : List AV) (i : Int) (a : Nat → Int) : obsK X7 (fun _ => none) 80 (sub b7 [1,1,0,1,0,0]) [1,1,0,1,0,0] (frm [(2, .ptr 0 0), (3, .ptr 1 0), (6, .lst 10 l .open_), (7, .int .i64 l.length), (8, .int .i64 i)]) [.var [.int .i64 0, .int .i64 0, .int .i64 0, .int .i64 0, .int .i64 0, .int .i64 0, .int .i64 0, .int .i64 0, .int .i64 0, .int .i64 0], .var [.int .i64 (a 0), .int .i64 (a 1), .int .i64 (a 2), .int .i64 (a 3), .int .i64 (a 4), .int .i64 (a 5), .int .i64 (a 6), .int .i64 (a 7), .int .i64 (a 8), .int .i64 (a 9)]] [2,3,6,7,8] =
  (T.br (decide (i < (↑l.length : Int)))
    (T.br (decide ((0 : Int) ≤ i) && decide (i < (↑l.length : Int)) &&
  fitsC Tryz.prog (26 : Nat) (l.getD i.toNat undef))
      (T.br (decide (i = (0 : Int)))
        (T.leaf (X.normal,
  [AV.ptr 0 0, AV.ptr 1 0, AV.lst 10 l Tl.open_, AV.int IntKind.i64 (↑l.length : Int),
    AV.int IntKind.i64 (IntKind.i64.wrap (i + 1))],
  [Blk.var
      [AV.int IntKind.i64 0, AV.int IntKind.i64 0, AV.int IntKind.i64 0, AV.int IntKind.i64 0, AV.int IntKind.i64 0,
        AV.int IntKind.i64 0, AV.int IntKind.i64 0, AV.int IntKind.i64 0, AV.int IntKind.i64 0, AV.int IntKind.i64 0],
    Blk.var
      [AV.int IntKind.i64 (IntKind.i64.wrap (a 0 + ((l.getD i.toNat undef).cells.getD 0 undef).toI)),
        AV.int IntKind.i64 (IntKind.i64.wrap (a 1 + ((l.getD i.toNat undef).cells.getD 1 undef).toI)),
        AV.int IntKind.i64 (IntKind.i64.wrap (a 2 + ((l.getD i.toNat undef).cells.getD 2 undef).toI)),
        AV.int IntKind.i64 (IntKind.i64.wrap (a 3 + ((l.getD i.toNat undef).cells.getD 3 undef).toI)),
        AV.int IntKind.i64 (IntKind.i64.wrap (a 4 + ((l.getD i.toNat undef).cells.getD 4 undef).toI)),
        AV.int IntKind.i64 (IntKind.i64.wrap (a 5 + ((l.getD i.toNat undef).cells.getD 5 undef).toI)),
        AV.int IntKind.i64 (IntKind.i64.wrap (a 6 + ((l.getD i.toNat undef).cells.getD 6 undef).toI)),
        AV.int IntKind.i64 (IntKind.i64.wrap (a 7 + ((l.getD i.toNat undef).cells.getD 7 undef).toI)),
        AV.int IntKind.i64 (IntKind.i64.wrap (a 8 + ((l.getD i.toNat undef).cells.getD 8 undef).toI)),
        AV.int IntKind.i64
          (if ((l.getD i.toNat undef).cells.getD 9 undef).toI > ((l.getD i.toNat undef).cells.getD 9 undef).toI then
            ((l.getD i.toNat undef).cells.getD 9 undef).toI
          else ((l.getD i.toNat undef).cells.getD 9 undef).toI)],
    Blk.var
      [AV.int IntKind.i64 ((l.getD i.toNat undef).cells.getD 0 undef).toI,
        AV.int IntKind.i64 ((l.getD i.toNat undef).cells.getD 1 undef).toI,
        AV.int IntKind.i64 ((l.getD i.toNat undef).cells.getD 2 undef).toI,
        AV.int IntKind.i64 ((l.getD i.toNat undef).cells.getD 3 undef).toI,
        AV.int IntKind.i64 ((l.getD i.toNat undef).cells.getD 4 undef).toI,
        AV.int IntKind.i64 ((l.getD i.toNat undef).cells.getD 5 undef).toI,
        AV.int IntKind.i64 ((l.getD i.toNat undef).cells.getD 6 undef).toI,
        AV.int IntKind.i64 ((l.getD i.toNat undef).cells.getD 7 undef).toI,
        AV.int IntKind.i64 ((l.getD i.toNat undef).cells.getD 8 undef).toI,
        AV.int IntKind.i64 ((l.getD i.toNat undef).cells.getD 9 undef).toI]]))
        (T.leaf (X.normal,
  [AV.ptr 0 0, AV.ptr 1 0, AV.lst 10 l Tl.open_, AV.int IntKind.i64 (↑l.length : Int),
    AV.int IntKind.i64 (IntKind.i64.wrap (i + 1))],
  [Blk.var
      [AV.int IntKind.i64 0, AV.int IntKind.i64 0, AV.int IntKind.i64 0, AV.int IntKind.i64 0, AV.int IntKind.i64 0,
        AV.int IntKind.i64 0, AV.int IntKind.i64 0, AV.int IntKind.i64 0, AV.int IntKind.i64 0, AV.int IntKind.i64 0],
    Blk.var
      [AV.int IntKind.i64 (IntKind.i64.wrap (a 0 + ((l.getD i.toNat undef).cells.getD 0 undef).toI)),
        AV.int IntKind.i64 (IntKind.i64.wrap (a 1 + ((l.getD i.toNat undef).cells.getD 1 undef).toI)),
        AV.int IntKind.i64 (IntKind.i64.wrap (a 2 + ((l.getD i.toNat undef).cells.getD 2 undef).toI)),
        AV.int IntKind.i64 (IntKind.i64.wrap (a 3 + ((l.getD i.toNat undef).cells.getD 3 undef).toI)),
        AV.int IntKind.i64 (IntKind.i64.wrap (a 4 + ((l.getD i.toNat undef).cells.getD 4 undef).toI)),
        AV.int IntKind.i64 (IntKind.i64.wrap (a 5 + ((l.getD i.toNat undef).cells.getD 5 undef).toI)),
        AV.int IntKind.i64 (IntKind.i64.wrap (a 6 + ((l.getD i.toNat undef).cells.getD 6 undef).toI)),
        AV.int IntKind.i64 (IntKind.i64.wrap (a 7 + ((l.getD i.toNat undef).cells.getD 7 undef).toI)),
        AV.int IntKind.i64 (IntKind.i64.wrap (a 8 + ((l.getD i.toNat undef).cells.getD 8 undef).toI)),
        AV.int IntKind.i64
          (if ((l.getD i.toNat undef).cells.getD 9 undef).toI > a 9 then ((l.getD i.toNat undef).cells.getD 9 undef).toI
          else a 9)],
    Blk.var
      [AV.int IntKind.i64 ((l.getD i.toNat undef).cells.getD 0 undef).toI,
        AV.int IntKind.i64 ((l.getD i.toNat undef).cells.getD 1 undef).toI,
        AV.int IntKind.i64 ((l.getD i.toNat undef).cells.getD 2 undef).toI,
        AV.int IntKind.i64 ((l.getD i.toNat undef).cells.getD 3 undef).toI,
        AV.int IntKind.i64 ((l.getD i.toNat undef).cells.getD 4 undef).toI,
        AV.int IntKind.i64 ((l.getD i.toNat undef).cells.getD 5 undef).toI,
        AV.int IntKind.i64 ((l.getD i.toNat undef).cells.getD 6 undef).toI,
        AV.int IntKind.i64 ((l.getD i.toNat undef).cells.getD 7 undef).toI,
        AV.int IntKind.i64 ((l.getD i.toNat undef).cells.getD 8 undef).toI,
        AV.int IntKind.i64 ((l.getD i.toNat undef).cells.getD 9 undef).toI]])))
      T.fail)
    (T.leaf (X.exit 0,
  [AV.ptr 0 0, AV.ptr 1 0, AV.lst 10 l Tl.open_, AV.int IntKind.i64 (↑l.length : Int), AV.int IntKind.i64 i],
  [Blk.var
      [AV.int IntKind.i64 0, AV.int IntKind.i64 0, AV.int IntKind.i64 0, AV.int IntKind.i64 0, AV.int IntKind.i64 0,
        AV.int IntKind.i64 0, AV.int IntKind.i64 0, AV.int IntKind.i64 0, AV.int IntKind.i64 0, AV.int IntKind.i64 0],
    Blk.var
      [AV.int IntKind.i64 (a 0), AV.int IntKind.i64 (a 1), AV.int IntKind.i64 (a 2), AV.int IntKind.i64 (a 3),
        AV.int IntKind.i64 (a 4), AV.int IntKind.i64 (a 5), AV.int IntKind.i64 (a 6), AV.int IntKind.i64 (a 7),
        AV.int IntKind.i64 (a 8), AV.int IntKind.i64 (a 9)]]))) := by kernel_rfl
theorem t8 (l : List AV) (i : Int) (a : Nat → Int) : obsK X8 (fun _ => none) 84 (sub b8 [1,1,0,1,0,0]) [1,1,0,1,0,0] (frm [(0, .lst 10 l .open_), (2, .ptr 0 0), (3, .ptr 1 0), (4, .int .i64 i)]) [.var [.int .i64 0, .int .i64 0, .int .i64 0, .int .i64 0, .int .i64 0, .int .i64 0, .int .i64 0, .int .i64 0, .int .i64 0, .int .i64 0], .var [.int .i64 (a 0), .int .i64 (a 1), .int .i64 (a 2), .int .i64 (a 3), .int .i64 (a 4), .int .i64 (a 5), .int .i64 (a 6), .int .i64 (a 7), .int .i64 (a 8), .int .i64 (a 9)]] [0,2,3,4] =
  (T.br (decide (i < ↑l.length))
    (T.br (decide (0 ≤ i) && decide (i < ↑l.length) && fitsC Tryz.prog 28 (l.getD i.toNat undef))
      (T.br (decide (i = 0))
        (T.br true
          (T.leaf (X.normal,
  [AV.lst 10 l Tl.open_, AV.ptr 0 0, AV.ptr 1 0, AV.int IntKind.i64 (IntKind.i64.wrap (i + 1))],
  [Blk.var
      [AV.int IntKind.i64 0, AV.int IntKind.i64 0, AV.int IntKind.i64 0, AV.int IntKind.i64 0, AV.int IntKind.i64 0,
        AV.int IntKind.i64 0, AV.int IntKind.i64 0, AV.int IntKind.i64 0, AV.int IntKind.i64 0, AV.int IntKind.i64 0],
    Blk.var
      [AV.int IntKind.i64 (IntKind.i64.wrap (a 0 + ((l.getD i.toNat undef).cells.getD 0 undef).toI)),
        AV.int IntKind.i64 (IntKind.i64.wrap (a 1 + ((l.getD i.toNat undef).cells.getD 1 undef).toI)),
        AV.int IntKind.i64 (IntKind.i64.wrap (a 2 + ((l.getD i.toNat undef).cells.getD 2 undef).toI)),
        AV.int IntKind.i64 (IntKind.i64.wrap (a 3 + ((l.getD i.toNat undef).cells.getD 3 undef).toI)),
        AV.int IntKind.i64 (IntKind.i64.wrap (a 4 + ((l.getD i.toNat undef).cells.getD 4 undef).toI)),
        AV.int IntKind.i64 (IntKind.i64.wrap (a 5 + ((l.getD i.toNat undef).cells.getD 5 undef).toI)),
        AV.int IntKind.i64 (IntKind.i64.wrap (a 6 + ((l.getD i.toNat undef).cells.getD 6 undef).toI)),
        AV.int IntKind.i64 (IntKind.i64.wrap (a 7 + ((l.getD i.toNat undef).cells.getD 7 undef).toI)),
        AV.int IntKind.i64 (IntKind.i64.wrap (a 8 + ((l.getD i.toNat undef).cells.getD 8 undef).toI)),
        AV.int IntKind.i64 ((l.getD i.toNat undef).cells.getD 9 undef).toI],
    Blk.var
      [AV.int IntKind.i64 ((l.getD i.toNat undef).cells.getD 0 undef).toI,
        AV.int IntKind.i64 ((l.getD i.toNat undef).cells.getD 1 undef).toI,
        AV.int IntKind.i64 ((l.getD i.toNat undef).cells.getD 2 undef).toI,
        AV.int IntKind.i64 ((l.getD i.toNat undef).cells.getD 3 undef).toI,
        AV.int IntKind.i64 ((l.getD i.toNat undef).cells.getD 4 undef).toI,
        AV.int IntKind.i64 ((l.getD i.toNat undef).cells.getD 5 undef).toI,
        AV.int IntKind.i64 ((l.getD i.toNat undef).cells.getD 6 undef).toI,
        AV.int IntKind.i64 ((l.getD i.toNat undef).cells.getD 7 undef).toI,
        AV.int IntKind.i64 ((l.getD i.toNat undef).cells.getD 8 undef).toI,
        AV.int IntKind.i64 ((l.getD i.toNat undef).cells.getD 9 undef).toI]]))
          (T.leaf (X.normal,
  [AV.lst 10 l Tl.open_, AV.ptr 0 0, AV.ptr 1 0, AV.int IntKind.i64 (IntKind.i64.wrap (i + 1))],
  [Blk.var
      [AV.int IntKind.i64 0, AV.int IntKind.i64 0, AV.int IntKind.i64 0, AV.int IntKind.i64 0, AV.int IntKind.i64 0,
        AV.int IntKind.i64 0, AV.int IntKind.i64 0, AV.int IntKind.i64 0, AV.int IntKind.i64 0, AV.int IntKind.i64 0],
    Blk.var
      [AV.int IntKind.i64 (IntKind.i64.wrap (a 0 + ((l.getD i.toNat undef).cells.getD 0 undef).toI)),
        AV.int IntKind.i64 (IntKind.i64.wrap (a 1 + ((l.getD i.toNat undef).cells.getD 1 undef).toI)),
        AV.int IntKind.i64 (IntKind.i64.wrap (a 2 + ((l.getD i.toNat undef).cells.getD 2 undef).toI)),
        AV.int IntKind.i64 (IntKind.i64.wrap (a 3 + ((l.getD i.toNat undef).cells.getD 3 undef).toI)),
        AV.int IntKind.i64 (IntKind.i64.wrap (a 4 + ((l.getD i.toNat undef).cells.getD 4 undef).toI)),
        AV.int IntKind.i64 (IntKind.i64.wrap (a 5 + ((l.getD i.toNat undef).cells.getD 5 undef).toI)),
        AV.int IntKind.i64 (IntKind.i64.wrap (a 6 + ((l.getD i.toNat undef).cells.getD 6 undef).toI)),
        AV.int IntKind.i64 (IntKind.i64.wrap (a 7 + ((l.getD i.toNat undef).cells.getD 7 undef).toI)),
        AV.int IntKind.i64 (IntKind.i64.wrap (a 8 + ((l.getD i.toNat undef).cells.getD 8 undef).toI)),
        AV.int IntKind.i64 (a 9)],
    Blk.var
      [AV.int IntKind.i64 ((l.getD i.toNat undef).cells.getD 0 undef).toI,
        AV.int IntKind.i64 ((l.getD i.toNat undef).cells.getD 1 undef).toI,
        AV.int IntKind.i64 ((l.getD i.toNat undef).cells.getD 2 undef).toI,
        AV.int IntKind.i64 ((l.getD i.toNat undef).cells.getD 3 undef).toI,
        AV.int IntKind.i64 ((l.getD i.toNat undef).cells.getD 4 undef).toI,
        AV.int IntKind.i64 ((l.getD i.toNat undef).cells.getD 5 undef).toI,
        AV.int IntKind.i64 ((l.getD i.toNat undef).cells.getD 6 undef).toI,
        AV.int IntKind.i64 ((l.getD i.toNat undef).cells.getD 7 undef).toI,
        AV.int IntKind.i64 ((l.getD i.toNat undef).cells.getD 8 undef).toI,
        AV.int IntKind.i64 ((l.getD i.toNat undef).cells.getD 9 undef).toI]])))
        (T.br (decide (a 9 < ((l.getD i.toNat undef).cells.getD (0 + 1 + 1 + 1 + 1 + 1 + 1 + 1 + 1 + 1) undef).toI))
          (T.leaf (X.normal,
  [AV.lst 10 l Tl.open_, AV.ptr 0 0, AV.ptr 1 0, AV.int IntKind.i64 (IntKind.i64.wrap (i + 1))],
  [Blk.var
      [AV.int IntKind.i64 0, AV.int IntKind.i64 0, AV.int IntKind.i64 0, AV.int IntKind.i64 0, AV.int IntKind.i64 0,
        AV.int IntKind.i64 0, AV.int IntKind.i64 0, AV.int IntKind.i64 0, AV.int IntKind.i64 0, AV.int IntKind.i64 0],
    Blk.var
      [AV.int IntKind.i64 (IntKind.i64.wrap (a 0 + ((l.getD i.toNat undef).cells.getD 0 undef).toI)),
        AV.int IntKind.i64 (IntKind.i64.wrap (a 1 + ((l.getD i.toNat undef).cells.getD 1 undef).toI)),
        AV.int IntKind.i64 (IntKind.i64.wrap (a 2 + ((l.getD i.toNat undef).cells.getD 2 undef).toI)),
        AV.int IntKind.i64 (IntKind.i64.wrap (a 3 + ((l.getD i.toNat undef).cells.getD 3 undef).toI)),
        AV.int IntKind.i64 (IntKind.i64.wrap (a 4 + ((l.getD i.toNat undef).cells.getD 4 undef).toI)),
        AV.int IntKind.i64 (IntKind.i64.wrap (a 5 + ((l.getD i.toNat undef).cells.getD 5 undef).toI)),
        AV.int IntKind.i64 (IntKind.i64.wrap (a 6 + ((l.getD i.toNat undef).cells.getD 6 undef).toI)),
        AV.int IntKind.i64 (IntKind.i64.wrap (a 7 + ((l.getD i.toNat undef).cells.getD 7 undef).toI)),
        AV.int IntKind.i64 (IntKind.i64.wrap (a 8 + ((l.getD i.toNat undef).cells.getD 8 undef).toI)),
        AV.int IntKind.i64 ((l.getD i.toNat undef).cells.getD 9 undef).toI],
    Blk.var
      [AV.int IntKind.i64 ((l.getD i.toNat undef).cells.getD 0 undef).toI,
        AV.int IntKind.i64 ((l.getD i.toNat undef).cells.getD 1 undef).toI,
        AV.int IntKind.i64 ((l.getD i.toNat undef).cells.getD 2 undef).toI,
        AV.int IntKind.i64 ((l.getD i.toNat undef).cells.getD 3 undef).toI,
        AV.int IntKind.i64 ((l.getD i.toNat undef).cells.getD 4 undef).toI,
        AV.int IntKind.i64 ((l.getD i.toNat undef).cells.getD 5 undef).toI,
        AV.int IntKind.i64 ((l.getD i.toNat undef).cells.getD 6 undef).toI,
        AV.int IntKind.i64 ((l.getD i.toNat undef).cells.getD 7 undef).toI,
        AV.int IntKind.i64 ((l.getD i.toNat undef).cells.getD 8 undef).toI,
        AV.int IntKind.i64 ((l.getD i.toNat undef).cells.getD 9 undef).toI]]))
          (T.leaf (X.normal,
  [AV.lst 10 l Tl.open_, AV.ptr 0 0, AV.ptr 1 0, AV.int IntKind.i64 (IntKind.i64.wrap (i + 1))],
  [Blk.var
      [AV.int IntKind.i64 0, AV.int IntKind.i64 0, AV.int IntKind.i64 0, AV.int IntKind.i64 0, AV.int IntKind.i64 0,
        AV.int IntKind.i64 0, AV.int IntKind.i64 0, AV.int IntKind.i64 0, AV.int IntKind.i64 0, AV.int IntKind.i64 0],
    Blk.var
      [AV.int IntKind.i64 (IntKind.i64.wrap (a 0 + ((l.getD i.toNat undef).cells.getD 0 undef).toI)),
        AV.int IntKind.i64 (IntKind.i64.wrap (a 1 + ((l.getD i.toNat undef).cells.getD 1 undef).toI)),
        AV.int IntKind.i64 (IntKind.i64.wrap (a 2 + ((l.getD i.toNat undef).cells.getD 2 undef).toI)),
        AV.int IntKind.i64 (IntKind.i64.wrap (a 3 + ((l.getD i.toNat undef).cells.getD 3 undef).toI)),
        AV.int IntKind.i64 (IntKind.i64.wrap (a 4 + ((l.getD i.toNat undef).cells.getD 4 undef).toI)),
        AV.int IntKind.i64 (IntKind.i64.wrap (a 5 + ((l.getD i.toNat undef).cells.getD 5 undef).toI)),
        AV.int IntKind.i64 (IntKind.i64.wrap (a 6 + ((l.getD i.toNat undef).cells.getD 6 undef).toI)),
        AV.int IntKind.i64 (IntKind.i64.wrap (a 7 + ((l.getD i.toNat undef).cells.getD 7 undef).toI)),
        AV.int IntKind.i64 (IntKind.i64.wrap (a 8 + ((l.getD i.toNat undef).cells.getD 8 undef).toI)),
        AV.int IntKind.i64 (a 9)],
    Blk.var
      [AV.int IntKind.i64 ((l.getD i.toNat undef).cells.getD 0 undef).toI,
        AV.int IntKind.i64 ((l.getD i.toNat undef).cells.getD 1 undef).toI,
        AV.int IntKind.i64 ((l.getD i.toNat undef).cells.getD 2 undef).toI,
        AV.int IntKind.i64 ((l.getD i.toNat undef).cells.getD 3 undef).toI,
        AV.int IntKind.i64 ((l.getD i.toNat undef).cells.getD 4 undef).toI,
        AV.int IntKind.i64 ((l.getD i.toNat undef).cells.getD 5 undef).toI,
        AV.int IntKind.i64 ((l.getD i.toNat undef).cells.getD 6 undef).toI,
        AV.int IntKind.i64 ((l.getD i.toNat undef).cells.getD 7 undef).toI,
        AV.int IntKind.i64 ((l.getD i.toNat undef).cells.getD 8 undef).toI,
        AV.int IntKind.i64 ((l.getD i.toNat undef).cells.getD 9 undef).toI]]))))
      T.fail)
    (T.leaf (X.exit 0, [AV.lst 10 l Tl.open_, AV.ptr 0 0, AV.ptr 1 0, AV.int IntKind.i64 i],
  [Blk.var
      [AV.int IntKind.i64 0, AV.int IntKind.i64 0, AV.int IntKind.i64 0, AV.int IntKind.i64 0, AV.int IntKind.i64 0,
        AV.int IntKind.i64 0, AV.int IntKind.i64 0, AV.int IntKind.i64 0, AV.int IntKind.i64 0, AV.int IntKind.i64 0],
    Blk.var
      [AV.int IntKind.i64 (a 0), AV.int IntKind.i64 (a 1), AV.int IntKind.i64 (a 2), AV.int IntKind.i64 (a 3),
        AV.int IntKind.i64 (a 4), AV.int IntKind.i64 (a 5), AV.int IntKind.i64 (a 6), AV.int IntKind.i64 (a 7),
        AV.int IntKind.i64 (a 8), AV.int IntKind.i64 (a 9)]]))) := by kernel_rfl
theorem g0 : Ground E0 := ⟨fun t h => by simpa [E0] using h, cok_none (fun _ _ => rfl), bok_none (fun _ => rfl), by kernel_rfl⟩
theorem noCalls {X : SX} (h : ∀ f args m, X.call f args m = .fail) : CallOK X.E X.calls := fun f args m r m' hc => by
  have : X.calls f args m = (X.call f args m).run := rfl
  rw [this, h] at hc; cases hc
def rowS (s : Nat → Int) : List AV := [.int .i64 (s 0), .int .i64 (s 1), .int .i64 (s 2), .int .i64 (s 3), .int .i64 (s 4), .int .i64 (s 5), .int .i64 (s 6), .int .i64 (s 7), .int .i64 (s 8), .int .i64 (s 9)]
def stepS (first : Bool) (a x : Nat → Int) : Nat → Int := fun k => if k = 9 then (if first = true then x 9 else if x 9 > a 9 then x 9 else a 9) else IntKind.i64.wrap (a k + x k)
/-- so many together. -/
def accN (ss : List (Nat → Int)) : Nat → (Nat → Int)
  | 0 => fun _ => 0
  | j + 1 => stepS (j == 0) (accN ss j) (ss.getD j (fun _ => 0))
theorem getD_enc {ss : List (Nat → Int)} {j : Nat} (h : j < ss.length) : (ss.map encS).getD j undef = encS (ss.getD j (fun _ => 0)) := by
  simp [List.getD_eq_getElem?_getD, List.getElem?_eq_getElem h]
theorem fits26 (s : Nat → Int) : fitsC Tryz.prog 26 (encS s) = true := by kernel_rfl
theorem fits28 (s : Nat → Int) : fitsC Tryz.prog 28 (encS s) = true := by kernel_rfl
theorem wrap64 {n : Int} (h0 : 0 ≤ n) (h1 : n < 9223372036854775808) : IntKind.i64.wrap n = n := by
  have e1 : IntKind.i64.bits = 64 := rfl
  have e2 : IntKind.i64.signed = true := rfl
  simp only [IntKind.wrap, e1, e2]
  have : n % (2 ^ 64 : Int) = n := Int.emod_eq_of_lt h0 (by omega)
  rw [this]
  simp
  intro h; omega
abbrev Z10 : List AV := [.int .i64 0, .int .i64 0, .int .i64 0, .int .i64 0, .int .i64 0, .int .i64 0, .int .i64 0, .int .i64 0, .int .i64 0, .int .i64 0]
def hp (ss : List (Nat → Int)) (j : Nat) : H := [.var Z10, .var (rowS (accN ss j))]
theorem noRefForms : noRefs formsL = true := by kernel_rfl
theorem noG0 : ∀ i cs, E0.G i = some cs → noRefs cs = true := by
  intro i cs h
  simp only [E0] at h
  split at h
  · cases h; exact noRefForms
  · cases h
theorem rens_enc (κ : Nat → Nat) (ss : List (Nat → Int)) : rens κ (ss.map encS) = ss.map encS := by
  rw [rens_map, List.map_map]
  refine List.map_congr_left fun s _ => ?_
  simp [encS, ren, rens]
def isS : AV → Bool
  | .agg [.int .i64 _, .int .i64 _, .int .i64 _, .int .i64 _, .int .i64 _, .int .i64 _, .int .i64 _, .int .i64 _, .int .i64 _, .int .i64 _] => true
  | _ => false
def decS (v : AV) (k : Nat) : Int := (v.cells.getD k undef).toI
theorem isS_enc {v : AV} (h : isS v = true) : v = encS (decS v) := by
  unfold isS at h
  split at h
  · simp [encS, decS, AV.cells, AV.toI]
  · cases h
theorem allS {l : List AV} (h : l.all isS = true) : ∃ ss : List (Nat → Int), ss = l.map decS ∧ l = ss.map encS := by
  refine ⟨_, rfl, ?_⟩
  rw [List.map_map]
  refine (List.map_id'' (fun v => rfl) l).symm.trans (List.map_congr_left fun v hv => ?_)
  exact isS_enc (List.all_eq_true.1 h v hv)

def st7 (ss : List (Nat → Int)) (j : Nat) : List (Nat × AV) := [(2, .ptr 0 0), (3, .ptr 1 0), (6, .lst 10 (ss.map encS) .open_), (7, .int .i64 (ss.map encS).length), (8, .int .i64 j)]
theorem round7 (ss : List (Nat → Int)) (j : Nat) (hj : j < ss.length) (hl : ss.length < 1000000000000000) :
    (obsK X7 (fun _ => none) 80 (sub b7 [1,1,0,1,0,0]) [1,1,0,1,0,0] (frm (st7 ss j)) (hp ss j) [2,3,6,7,8]).run = .ok (.normal, (st7 ss (j + 1)).map (·.2), hp ss (j + 1) ++ [.var (rowS (ss.getD j (fun _ => 0)))]) := by
  have ht := t7 (ss.map encS) j (accN ss j)
  have hlen : (ss.map encS).length = ss.length := by simp
  have hc : ((j : Int)).toNat = j := by simp
  rw [hc, getD_enc hj, fits26] at ht
  have h1 : decide ((j : Int) < ((ss.map encS).length : Nat)) = true := by rw [hlen]; simp; omega
  have h2 : decide (0 ≤ (j : Int)) = true := by simp
  refine (congrArg T.run ht).trans ?_
  simp only [h1, h2, Bool.and_self, T.run]
  have hw : IntKind.i64.wrap ((j : Int) + 1) = ((j + 1 : Nat) : Int) := by rw [wrap64 (by omega) (by omega)]; simp
  obtain ⟨x, hx⟩ : ∃ x, x = ss.getD j (fun _ => 0) := ⟨_, rfl⟩
  have hacc : accN ss (j + 1) = stepS (j == 0) (accN ss j) x := by rw [hx]; rfl
  rw [hw, hp, hacc, ← hx]
  by_cases h0 : j = 0
  · subst h0
    simp [T.run, st7, hp, rowS, accN, stepS, encS, AV.cells, AV.toI]
  · have h3 : decide ((j : Int) = 0) = false := by simp; omega
    have h4 : (j == 0) = false := by simp [h0]
    rw [h3]
    simp [T.run, st7, hp, rowS, accN, stepS, encS, AV.cells, AV.toI, h4]
theorem out7 (ss : List (Nat → Int)) : (obsK X7 (fun _ => none) 80 (sub b7 [1,1,0,1,0,0]) [1,1,0,1,0,0] (frm (st7 ss ss.length)) (hp ss ss.length) [2,3,6,7,8]).run = .ok (.exit 0, (st7 ss ss.length).map (·.2), hp ss ss.length) := by
  have ht := t7 (ss.map encS) ss.length (accN ss ss.length)
  have h1 : decide ((ss.length : Int) < ((ss.map encS).length : Nat)) = false := by simp
  rw [h1] at ht
  refine (congrArg T.run ht).trans ?_
  simp [T.run, st7, hp, rowS]
theorem loop7 (ss : List (Nat → Int)) (hl : ss.length < 1000000000000000) : ∀ (d j : Nat), j + d = ss.length → TRounds E0 80 [] (sub b7 [1,1,0,1,0,0]) (frm (st7 ss j)) (hp ss j) (.exit 0) (frm (st7 ss ss.length)) (hp ss ss.length)
  | 0, j, h => by
    obtain rfl : j = ss.length := by omega
    exact .done (Tri.of_obs (X := X7) g0 (noCalls fun _ _ _ => rfl) KOK.none rfl (out7 ss)) nofun
  | d + 1, j, h => by
    refine .more (.wk .refl (Tri.of_obs (X := X7) g0 (noCalls fun _ _ _ => rfl) KOK.none rfl (round7 ss j (by omega) hl)) ?_) (loop7 ss hl d (j + 1) (by omega))
    refine Wk.cutF (sl := st7 ss (j + 1)) noG0 (by simp) (fun x hx => ?_) (fun x hx => ?_) (fun p hp' => ?_)
    · simp only [hp, List.mem_cons, List.not_mem_nil, or_false] at hx; rcases hx with rfl | rfl <;> nofun
    · simp only [hp, List.mem_cons, List.not_mem_nil, or_false] at hx
      rcases hx with rfl | rfl <;> simp [renB, rens, ren, rowS]
    · simp only [st7, List.mem_cons, List.not_mem_nil, or_false] at hp'
      rcases hp' with rfl | rfl | rfl | rfl | rfl <;> simp [ren, hp, isFsl, rens_enc]
def K7 : Known := fun p => if p = [1,1,0,1] then some (fun τ h => match τ 2, τ 3, τ 6, τ 7, τ 8, h with
  | .ptr 0 0, .ptr 1 0, .lst 10 l .open_, .int .i64 n, .int .i64 i, [.var z, .var a] => (match sames z Z10 && sames a Z10 with
    | true => .br (l.all isS && decide (l.length < 1000000000000000) && (decide (n = l.length) && decide (i = 0))) (.leaf (.normal, frm [(2, .ptr 0 0), (3, .ptr 1 0)], [.var Z10, .var (rowS (accN (l.map decS) l.length))])) .fail
    | false => .fail)
  | _, _, _, _, _, _ => .fail) else none
theorem kok7 : KOK E0 80 [] b7 K7 := by
  intro p k hk τ h x τ' h' hr
  simp only [K7] at hk
  split at hk
  · rename_i hp0
    subst hp0
    cases hk
    dsimp only at hr
    split at hr
    · rename_i l n i z a e2 e3 e6 e7 e8
      split at hr
      · rename_i hz
        simp only [Bool.and_eq_true] at hz
        obtain ⟨hz1, hz2⟩ := hz
        obtain ⟨hc, hr⟩ := brf_ok hr
        cases hr
        simp only [Bool.and_eq_true, decide_eq_true_eq] at hc
        obtain ⟨⟨hS, hl⟩, hn, hi⟩ := hc
        subst hn; subst hi
        obtain rfl := sames_eq' hz1
        obtain rfl := sames_eq' hz2
        obtain ⟨ss, hss, hle⟩ := allS hS
        rw [← hss]
        clear hss
        subst hle
        have hlen : (ss.map encS).length = ss.length := by simp
        rw [hlen]
        rw [hlen] at hl
        have hT : Tri E0 80 [] (sub b7 [1,1,0,1]) (frm (st7 ss 0)) (hp ss 0) .normal (frm (st7 ss ss.length)) (hp ss ss.length) := Tri.block (id := 0) (Tri.loop (loop7 ss hl ss.length 0 (by omega)))
        refine .wk (Wk.fewer (fun q hq => ?_)) hT (Wk.fewer (fun q hq => ?_))
        · simp only [st7, List.mem_cons, List.not_mem_nil, or_false] at hq
          rcases hq with rfl | rfl | rfl | rfl | rfl <;> simp_all
        · simp only [List.mem_cons, List.not_mem_nil, or_false] at hq
          rcases hq with rfl | rfl <;> rfl
      · cases hr
    · cases hr
  · cases hk

def st8 (ss : List (Nat → Int)) (j : Nat) : List (Nat × AV) := [(0, .lst 10 (ss.map encS) .open_), (2, .ptr 0 0), (3, .ptr 1 0), (4, .int .i64 j)]
theorem round8 (ss : List (Nat → Int)) (j : Nat) (hj : j < ss.length) (hl : ss.length < 1000000000000000) :
    (obsK X8 (fun _ => none) 84 (sub b8 [1,1,0,1,0,0]) [1,1,0,1,0,0] (frm (st8 ss j)) (hp ss j) [0,2,3,4]).run = .ok (.normal, (st8 ss (j + 1)).map (·.2), hp ss (j + 1) ++ [.var (rowS (ss.getD j (fun _ => 0)))]) := by
  have ht := t8 (ss.map encS) j (accN ss j)
  have hlen : (ss.map encS).length = ss.length := by simp
  have hc : ((j : Int)).toNat = j := by simp
  rw [hc, getD_enc hj, fits28] at ht
  have h1 : decide ((j : Int) < ((ss.map encS).length : Nat)) = true := by rw [hlen]; simp; omega
  have h2 : decide (0 ≤ (j : Int)) = true := by simp
  refine (congrArg T.run ht).trans ?_
  simp only [h1, h2, Bool.and_self, T.run]
  have hw : IntKind.i64.wrap ((j : Int) + 1) = ((j + 1 : Nat) : Int) := by rw [wrap64 (by omega) (by omega)]; simp
  obtain ⟨x, hx⟩ : ∃ x, x = ss.getD j (fun _ => 0) := ⟨_, rfl⟩
  have hacc : accN ss (j + 1) = stepS (j == 0) (accN ss j) x := by rw [hx]; rfl
  rw [hw, hp, hacc, ← hx]
  by_cases h0 : j = 0
  · subst h0
    simp [T.run, st8, hp, rowS, accN, stepS, encS, AV.cells, AV.toI]
  · have h3 : decide ((j : Int) = 0) = false := by simp; omega
    have h4 : (j == 0) = false := by simp [h0]
    rw [h3]
    by_cases h9 : accN ss j 9 < x 9
    · simp [T.run, st8, hp, rowS, accN, stepS, encS, AV.cells, AV.toI, h4, h9]
    · simp [T.run, st8, hp, rowS, accN, stepS, encS, AV.cells, AV.toI, h4, h9]
theorem out8 (ss : List (Nat → Int)) : (obsK X8 (fun _ => none) 84 (sub b8 [1,1,0,1,0,0]) [1,1,0,1,0,0] (frm (st8 ss ss.length)) (hp ss ss.length) [0,2,3,4]).run = .ok (.exit 0, (st8 ss ss.length).map (·.2), hp ss ss.length) := by
  have ht := t8 (ss.map encS) ss.length (accN ss ss.length)
  have h1 : decide ((ss.length : Int) < ((ss.map encS).length : Nat)) = false := by simp
  rw [h1] at ht
  refine (congrArg T.run ht).trans ?_
  simp [T.run, st8, hp, rowS]
theorem loop8 (ss : List (Nat → Int)) (hl : ss.length < 1000000000000000) : ∀ (d j : Nat), j + d = ss.length → TRounds E0 84 [] (sub b8 [1,1,0,1,0,0]) (frm (st8 ss j)) (hp ss j) (.exit 0) (frm (st8 ss ss.length)) (hp ss ss.length)
  | 0, j, h => by
    obtain rfl : j = ss.length := by omega
    exact .done (Tri.of_obs (X := X8) g0 (noCalls fun _ _ _ => rfl) KOK.none rfl (out8 ss)) nofun
  | d + 1, j, h => by
    refine .more (.wk .refl (Tri.of_obs (X := X8) g0 (noCalls fun _ _ _ => rfl) KOK.none rfl (round8 ss j (by omega) hl)) ?_) (loop8 ss hl d (j + 1) (by omega))
    refine Wk.cutF (sl := st8 ss (j + 1)) noG0 (by simp) (fun x hx => ?_) (fun x hx => ?_) (fun p hp' => ?_)
    · simp only [hp, List.mem_cons, List.not_mem_nil, or_false] at hx; rcases hx with rfl | rfl <;> nofun
    · simp only [hp, List.mem_cons, List.not_mem_nil, or_false] at hx
      rcases hx with rfl | rfl <;> simp [renB, rens, ren, rowS]
    · simp only [st8, List.mem_cons, List.not_mem_nil, or_false] at hp'
      rcases hp' with rfl | rfl | rfl | rfl <;> simp [ren, hp, isFsl, rens_enc]
def K8 : Known := fun p => if p = [1,1,0,1] then some (fun τ h => match τ 0, τ 2, τ 3, τ 4, h with
  | .lst 10 l .open_, .ptr 0 0, .ptr 1 0, .int .i64 i, [.var z, .var a] => (match sames z Z10 && sames a Z10 with
    | true => .br (l.all isS && decide (l.length < 1000000000000000) && decide (i = 0)) (.leaf (.normal, frm [(2, .ptr 0 0), (3, .ptr 1 0)], [.var Z10, .var (rowS (accN (l.map decS) l.length))])) .fail
    | false => .fail)
  | _, _, _, _, _ => .fail) else none
theorem kok8 : KOK E0 84 [] b8 K8 := by
  intro p k hk τ h x τ' h' hr
  simp only [K8] at hk
  split at hk
  · rename_i hp0
    subst hp0
    cases hk
    dsimp only at hr
    split at hr
    · rename_i l i z a e0 e2 e3 e4
      split at hr
      · rename_i hz
        simp only [Bool.and_eq_true] at hz
        obtain ⟨hz1, hz2⟩ := hz
        obtain ⟨hc, hr⟩ := brf_ok hr
        cases hr
        simp only [Bool.and_eq_true, decide_eq_true_eq] at hc
        obtain ⟨⟨hS, hl⟩, hi⟩ := hc
        subst hi
        obtain rfl := sames_eq' hz1
        obtain rfl := sames_eq' hz2
        obtain ⟨ss, hss, hle⟩ := allS hS
        rw [← hss]
        clear hss
        subst hle
        have hlen : (ss.map encS).length = ss.length := by simp
        rw [hlen]
        rw [hlen] at hl
        have hT : Tri E0 84 [] (sub b8 [1,1,0,1]) (frm (st8 ss 0)) (hp ss 0) .normal (frm (st8 ss ss.length)) (hp ss ss.length) := Tri.block (id := 0) (Tri.loop (loop8 ss hl ss.length 0 (by omega)))
        refine .wk (Wk.fewer (fun q hq => ?_)) hT (Wk.fewer (fun q hq => ?_))
        · simp only [st8, List.mem_cons, List.not_mem_nil, or_false] at hq
          rcases hq with rfl | rfl | rfl | rfl <;> simp_all
        · simp only [List.mem_cons, List.not_mem_nil, or_false] at hq
          rcases hq with rfl | rfl <;> rfl
      · cases hr
    · cases hr
  · cases hk
def call3 : FuncId → List AV → H → T (AV × H) := fun f args h =>
  if f = 4 then (match args with
    | [] => .leaf (.bool true, h)
    | _ => .fail)
  else if f = 5 ∨ f = 6 then (match args with
    | [v] => (match isS v with | true => .leaf (encS (decS v), h) | false => .fail)
    | _ => .fail)
  else if f = 7 ∨ f = 8 then (match args with
    | [.nils] => .leaf (encS (accN [] 0), h)
    | [.lst 10 l _] => .br (l.all isS && decide (l.length < 1000000000000000)) (.leaf (encS (accN (l.map decS) l.length), h)) .fail
    | _ => .fail)
  else .fail
noncomputable def X3 : SX := { E := E0, f := 3, con := fun d => [23, 35].contains d, split := fun d => [8, 13, 42, 50].contains d, call := call3 }
def K3 : Known := fun p => if p = [1,1,1,1,0,1] then some (fun τ h => match τ 0, τ 3, τ 4, τ 5, h with
  | .lst 10 l .open_, .nils, .nils, .int .i64 i, [] => .br (l.all isS && decide (l.length ≤ 100) && decide (i = 0)) (.br l.isEmpty (.leaf (.normal, frm [(0, .lst 10 l .open_), (3, .nils), (4, .nils)], [])) (.leaf (.normal, frm [(0, .lst 10 l .open_), (3, .lst 10 l (.own 0)), (4, .lst 10 l.reverse (.own 1))], [.tail, .tail]))) .fail
  | _, _, _, _, _ => .fail) else none

theorem t7w (l : List AV) : runF X7 K7 Tryz.f7 b7 [.lst 10 l .open_] [] =
  (T.br (l.all isS && decide (l.length < (1000000000000000 : Nat)) &&
  (decide ((↑l.length : Int) = (↑l.length : Int)) && decide ((0 : Int) = (0 : Int))))
    (T.leaf (AV.agg
    [AV.int IntKind.i64 (accN (List.map (fun v k => (v.cells.getD k undef).toI) l) l.length 0),
      AV.int IntKind.i64 (accN (List.map (fun v k => (v.cells.getD k undef).toI) l) l.length 1),
      AV.int IntKind.i64 (accN (List.map (fun v k => (v.cells.getD k undef).toI) l) l.length 2),
      AV.int IntKind.i64 (accN (List.map (fun v k => (v.cells.getD k undef).toI) l) l.length 3),
      AV.int IntKind.i64 (accN (List.map (fun v k => (v.cells.getD k undef).toI) l) l.length 4),
      AV.int IntKind.i64 (accN (List.map (fun v k => (v.cells.getD k undef).toI) l) l.length 5),
      AV.int IntKind.i64 (accN (List.map (fun v k => (v.cells.getD k undef).toI) l) l.length 6),
      AV.int IntKind.i64 (accN (List.map (fun v k => (v.cells.getD k undef).toI) l) l.length 7),
      AV.int IntKind.i64 (accN (List.map (fun v k => (v.cells.getD k undef).toI) l) l.length 8),
      AV.int IntKind.i64 (accN (List.map (fun v k => (v.cells.getD k undef).toI) l) l.length 9)],
  [Blk.var
      [AV.int IntKind.i64 (accN (List.map (fun v k => (v.cells.getD k undef).toI) l) l.length 0),
        AV.int IntKind.i64 (accN (List.map (fun v k => (v.cells.getD k undef).toI) l) l.length 1),
        AV.int IntKind.i64 (accN (List.map (fun v k => (v.cells.getD k undef).toI) l) l.length 2),
        AV.int IntKind.i64 (accN (List.map (fun v k => (v.cells.getD k undef).toI) l) l.length 3),
        AV.int IntKind.i64 (accN (List.map (fun v k => (v.cells.getD k undef).toI) l) l.length 4),
        AV.int IntKind.i64 (accN (List.map (fun v k => (v.cells.getD k undef).toI) l) l.length 5),
        AV.int IntKind.i64 (accN (List.map (fun v k => (v.cells.getD k undef).toI) l) l.length 6),
        AV.int IntKind.i64 (accN (List.map (fun v k => (v.cells.getD k undef).toI) l) l.length 7),
        AV.int IntKind.i64 (accN (List.map (fun v k => (v.cells.getD k undef).toI) l) l.length 8),
        AV.int IntKind.i64 (accN (List.map (fun v k => (v.cells.getD k undef).toI) l) l.length 9)],
    Blk.var
      [AV.int IntKind.i64 (accN (List.map (fun v k => (v.cells.getD k undef).toI) l) l.length 0),
        AV.int IntKind.i64 (accN (List.map (fun v k => (v.cells.getD k undef).toI) l) l.length 1),
        AV.int IntKind.i64 (accN (List.map (fun v k => (v.cells.getD k undef).toI) l) l.length 2),
        AV.int IntKind.i64 (accN (List.map (fun v k => (v.cells.getD k undef).toI) l) l.length 3),
        AV.int IntKind.i64 (accN (List.map (fun v k => (v.cells.getD k undef).toI) l) l.length 4),
        AV.int IntKind.i64 (accN (List.map (fun v k => (v.cells.getD k undef).toI) l) l.length 5),
        AV.int IntKind.i64 (accN (List.map (fun v k => (v.cells.getD k undef).toI) l) l.length 6),
        AV.int IntKind.i64 (accN (List.map (fun v k => (v.cells.getD k undef).toI) l) l.length 7),
        AV.int IntKind.i64 (accN (List.map (fun v k => (v.cells.getD k undef).toI) l) l.length 8),
        AV.int IntKind.i64 (accN (List.map (fun v k => (v.cells.getD k undef).toI) l) l.length 9)]]))
    T.fail) := by kernel_rfl
theorem t8w (l : List AV) : runF X8 K8 Tryz.f8 b8 [.lst 10 l .open_] [] =
  (T.br (l.all isS && decide (l.length < (1000000000000000 : Nat)) && decide ((0 : Int) = (0 : Int)))
    (T.leaf (AV.agg
    [AV.int IntKind.i64 (accN (List.map (fun v k => (v.cells.getD k undef).toI) l) l.length 0),
      AV.int IntKind.i64 (accN (List.map (fun v k => (v.cells.getD k undef).toI) l) l.length 1),
      AV.int IntKind.i64 (accN (List.map (fun v k => (v.cells.getD k undef).toI) l) l.length 2),
      AV.int IntKind.i64 (accN (List.map (fun v k => (v.cells.getD k undef).toI) l) l.length 3),
      AV.int IntKind.i64 (accN (List.map (fun v k => (v.cells.getD k undef).toI) l) l.length 4),
      AV.int IntKind.i64 (accN (List.map (fun v k => (v.cells.getD k undef).toI) l) l.length 5),
      AV.int IntKind.i64 (accN (List.map (fun v k => (v.cells.getD k undef).toI) l) l.length 6),
      AV.int IntKind.i64 (accN (List.map (fun v k => (v.cells.getD k undef).toI) l) l.length 7),
      AV.int IntKind.i64 (accN (List.map (fun v k => (v.cells.getD k undef).toI) l) l.length 8),
      AV.int IntKind.i64 (accN (List.map (fun v k => (v.cells.getD k undef).toI) l) l.length 9)],
  [Blk.var
      [AV.int IntKind.i64 (accN (List.map (fun v k => (v.cells.getD k undef).toI) l) l.length 0),
        AV.int IntKind.i64 (accN (List.map (fun v k => (v.cells.getD k undef).toI) l) l.length 1),
        AV.int IntKind.i64 (accN (List.map (fun v k => (v.cells.getD k undef).toI) l) l.length 2),
        AV.int IntKind.i64 (accN (List.map (fun v k => (v.cells.getD k undef).toI) l) l.length 3),
        AV.int IntKind.i64 (accN (List.map (fun v k => (v.cells.getD k undef).toI) l) l.length 4),
        AV.int IntKind.i64 (accN (List.map (fun v k => (v.cells.getD k undef).toI) l) l.length 5),
        AV.int IntKind.i64 (accN (List.map (fun v k => (v.cells.getD k undef).toI) l) l.length 6),
        AV.int IntKind.i64 (accN (List.map (fun v k => (v.cells.getD k undef).toI) l) l.length 7),
        AV.int IntKind.i64 (accN (List.map (fun v k => (v.cells.getD k undef).toI) l) l.length 8),
        AV.int IntKind.i64 (accN (List.map (fun v k => (v.cells.getD k undef).toI) l) l.length 9)],
    Blk.var
      [AV.int IntKind.i64 (accN (List.map (fun v k => (v.cells.getD k undef).toI) l) l.length 0),
        AV.int IntKind.i64 (accN (List.map (fun v k => (v.cells.getD k undef).toI) l) l.length 1),
        AV.int IntKind.i64 (accN (List.map (fun v k => (v.cells.getD k undef).toI) l) l.length 2),
        AV.int IntKind.i64 (accN (List.map (fun v k => (v.cells.getD k undef).toI) l) l.length 3),
        AV.int IntKind.i64 (accN (List.map (fun v k => (v.cells.getD k undef).toI) l) l.length 4),
        AV.int IntKind.i64 (accN (List.map (fun v k => (v.cells.getD k undef).toI) l) l.length 5),
        AV.int IntKind.i64 (accN (List.map (fun v k => (v.cells.getD k undef).toI) l) l.length 6),
        AV.int IntKind.i64 (accN (List.map (fun v k => (v.cells.getD k undef).toI) l) l.length 7),
        AV.int IntKind.i64 (accN (List.map (fun v k => (v.cells.getD k undef).toI) l) l.length 8),
        AV.int IntKind.i64 (accN (List.map (fun v k => (v.cells.getD k undef).toI) l) l.length 9)]]))
    T.fail) := by kernel_rfl
theorem t3n (l : List AV) (i : Int) : obsK X3 (fun _ => none) 53 (sub b3 [1,1,1,1,0,1,0,0]) [1,1,1,1,0,1,0,0] (frm [(0, .lst 10 l .open_), (3, .nils), (4, .nils), (5, .int .i64 i)]) [] [0,3,4,5] =
  (T.br (decide (i < (↑l.length : Int)))
    (T.br (decide ((0 : Int) ≤ i) && decide (i < (↑l.length : Int)) &&
  fitsC Tryz.prog (28 : Nat) (l.getD i.toNat undef))
      (T.br true
        (T.br (decide ((0 : Int) ≤ IntKind.i64.wrap (IntKind.i64.wrap ((↑l.length : Int) - (1 : Int)) - i)) &&
    decide (IntKind.i64.wrap (IntKind.i64.wrap ((↑l.length : Int) - (1 : Int)) - i) < (↑l.length : Int)) &&
  fitsC Tryz.prog (28 : Nat)
    (l.getD (IntKind.i64.wrap (IntKind.i64.wrap ((↑l.length : Int) - (1 : Int)) - i)).toNat undef))
          (T.br true
            (T.leaf (X.normal,
  [AV.lst 10 l Tl.open_,
    AV.lst 10
      [AV.agg
          [AV.int IntKind.i64 (AV.int IntKind.i64 ((l.getD i.toNat undef).cells.getD 0 undef).toI).toI,
            AV.int IntKind.i64 (AV.int IntKind.i64 ((l.getD i.toNat undef).cells.getD 1 undef).toI).toI,
            AV.int IntKind.i64 (AV.int IntKind.i64 ((l.getD i.toNat undef).cells.getD 2 undef).toI).toI,
            AV.int IntKind.i64 (AV.int IntKind.i64 ((l.getD i.toNat undef).cells.getD 3 undef).toI).toI,
            AV.int IntKind.i64 (AV.int IntKind.i64 ((l.getD i.toNat undef).cells.getD 4 undef).toI).toI,
            AV.int IntKind.i64 (AV.int IntKind.i64 ((l.getD i.toNat undef).cells.getD 5 undef).toI).toI,
            AV.int IntKind.i64 (AV.int IntKind.i64 ((l.getD i.toNat undef).cells.getD 6 undef).toI).toI,
            AV.int IntKind.i64 (AV.int IntKind.i64 ((l.getD i.toNat undef).cells.getD 7 undef).toI).toI,
            AV.int IntKind.i64 (AV.int IntKind.i64 ((l.getD i.toNat undef).cells.getD 8 undef).toI).toI,
            AV.int IntKind.i64 (AV.int IntKind.i64 ((l.getD i.toNat undef).cells.getD 9 undef).toI).toI]]
      (Tl.own 1),
    AV.lst 10
      [AV.agg
          [AV.int IntKind.i64
              (AV.int IntKind.i64
                  ((l.getD (IntKind.i64.wrap (IntKind.i64.wrap ((↑l.length : Int) - 1) - i)).toNat undef).cells.getD 0
                      undef).toI).toI,
            AV.int IntKind.i64
              (AV.int IntKind.i64
                  ((l.getD (IntKind.i64.wrap (IntKind.i64.wrap ((↑l.length : Int) - 1) - i)).toNat undef).cells.getD 1
                      undef).toI).toI,
            AV.int IntKind.i64
              (AV.int IntKind.i64
                  ((l.getD (IntKind.i64.wrap (IntKind.i64.wrap ((↑l.length : Int) - 1) - i)).toNat undef).cells.getD 2
                      undef).toI).toI,
            AV.int IntKind.i64
              (AV.int IntKind.i64
                  ((l.getD (IntKind.i64.wrap (IntKind.i64.wrap ((↑l.length : Int) - 1) - i)).toNat undef).cells.getD 3
                      undef).toI).toI,
            AV.int IntKind.i64
              (AV.int IntKind.i64
                  ((l.getD (IntKind.i64.wrap (IntKind.i64.wrap ((↑l.length : Int) - 1) - i)).toNat undef).cells.getD 4
                      undef).toI).toI,
            AV.int IntKind.i64
              (AV.int IntKind.i64
                  ((l.getD (IntKind.i64.wrap (IntKind.i64.wrap ((↑l.length : Int) - 1) - i)).toNat undef).cells.getD 5
                      undef).toI).toI,
            AV.int IntKind.i64
              (AV.int IntKind.i64
                  ((l.getD (IntKind.i64.wrap (IntKind.i64.wrap ((↑l.length : Int) - 1) - i)).toNat undef).cells.getD 6
                      undef).toI).toI,
            AV.int IntKind.i64
              (AV.int IntKind.i64
                  ((l.getD (IntKind.i64.wrap (IntKind.i64.wrap ((↑l.length : Int) - 1) - i)).toNat undef).cells.getD 7
                      undef).toI).toI,
            AV.int IntKind.i64
              (AV.int IntKind.i64
                  ((l.getD (IntKind.i64.wrap (IntKind.i64.wrap ((↑l.length : Int) - 1) - i)).toNat undef).cells.getD 8
                      undef).toI).toI,
            AV.int IntKind.i64
              (AV.int IntKind.i64
                  ((l.getD (IntKind.i64.wrap (IntKind.i64.wrap ((↑l.length : Int) - 1) - i)).toNat undef).cells.getD 9
                      undef).toI).toI]]
      (Tl.own 3),
    AV.int IntKind.i64 (IntKind.i64.wrap (i + 1))],
  [Blk.tail, Blk.tail, Blk.tail, Blk.tail]))
            T.fail)
          T.fail)
        T.fail)
      T.fail)
    (T.leaf (X.exit 0, [AV.lst 10 l Tl.open_, AV.nils, AV.nils, AV.int IntKind.i64 i], []))) := by kernel_rfl
theorem t3o (l la lb : List AV) (i : Int) : obsK X3 (fun _ => none) 53 (sub b3 [1,1,1,1,0,1,0,0]) [1,1,1,1,0,1,0,0] (frm [(0, .lst 10 l .open_), (3, .lst 10 la (.own 0)), (4, .lst 10 lb (.own 1)), (5, .int .i64 i)]) [.tail, .tail] [0,3,4,5] =
  (T.br (decide (i < (↑l.length : Int)))
    (T.br (decide ((0 : Int) ≤ i) && decide (i < (↑l.length : Int)) &&
  fitsC Tryz.prog (28 : Nat) (l.getD i.toNat undef))
      (T.br (decide ((la.length + (1 : Nat)) * (80 : Nat) ≤ (140000000000000 : Nat)) &&
    decide (la.length + (1 : Nat) ≤ (140000000000000 : Nat)) &&
  [AV.agg
          [AV.int IntKind.i64 (AV.int IntKind.i64 ((l.getD i.toNat undef).cells.getD (0 : Nat) undef).toI).toI,
            AV.int IntKind.i64 (AV.int IntKind.i64 ((l.getD i.toNat undef).cells.getD (1 : Nat) undef).toI).toI,
            AV.int IntKind.i64 (AV.int IntKind.i64 ((l.getD i.toNat undef).cells.getD (2 : Nat) undef).toI).toI,
            AV.int IntKind.i64 (AV.int IntKind.i64 ((l.getD i.toNat undef).cells.getD (3 : Nat) undef).toI).toI,
            AV.int IntKind.i64 (AV.int IntKind.i64 ((l.getD i.toNat undef).cells.getD (4 : Nat) undef).toI).toI,
            AV.int IntKind.i64 (AV.int IntKind.i64 ((l.getD i.toNat undef).cells.getD (5 : Nat) undef).toI).toI,
            AV.int IntKind.i64 (AV.int IntKind.i64 ((l.getD i.toNat undef).cells.getD (6 : Nat) undef).toI).toI,
            AV.int IntKind.i64 (AV.int IntKind.i64 ((l.getD i.toNat undef).cells.getD (7 : Nat) undef).toI).toI,
            AV.int IntKind.i64 (AV.int IntKind.i64 ((l.getD i.toNat undef).cells.getD (8 : Nat) undef).toI).toI,
            AV.int IntKind.i64 (AV.int IntKind.i64 ((l.getD i.toNat undef).cells.getD (9 : Nat) undef).toI).toI]].all
    fun y => y.cells.all AV.leaf)
        (T.br (decide ((0 : Int) ≤ IntKind.i64.wrap (IntKind.i64.wrap ((↑l.length : Int) - (1 : Int)) - i)) &&
    decide (IntKind.i64.wrap (IntKind.i64.wrap ((↑l.length : Int) - (1 : Int)) - i) < (↑l.length : Int)) &&
  fitsC Tryz.prog (28 : Nat)
    (l.getD (IntKind.i64.wrap (IntKind.i64.wrap ((↑l.length : Int) - (1 : Int)) - i)).toNat undef))
          (T.br (decide ((lb.length + (1 : Nat)) * (80 : Nat) ≤ (140000000000000 : Nat)) &&
    decide (lb.length + (1 : Nat) ≤ (140000000000000 : Nat)) &&
  [AV.agg
          [AV.int IntKind.i64
              (AV.int IntKind.i64
                  ((l.getD (IntKind.i64.wrap (IntKind.i64.wrap ((↑l.length : Int) - (1 : Int)) - i)).toNat
                            undef).cells.getD
                      (0 : Nat) undef).toI).toI,
            AV.int IntKind.i64
              (AV.int IntKind.i64
                  ((l.getD (IntKind.i64.wrap (IntKind.i64.wrap ((↑l.length : Int) - (1 : Int)) - i)).toNat
                            undef).cells.getD
                      (1 : Nat) undef).toI).toI,
            AV.int IntKind.i64
              (AV.int IntKind.i64
                  ((l.getD (IntKind.i64.wrap (IntKind.i64.wrap ((↑l.length : Int) - (1 : Int)) - i)).toNat
                            undef).cells.getD
                      (2 : Nat) undef).toI).toI,
            AV.int IntKind.i64
              (AV.int IntKind.i64
                  ((l.getD (IntKind.i64.wrap (IntKind.i64.wrap ((↑l.length : Int) - (1 : Int)) - i)).toNat
                            undef).cells.getD
                      (3 : Nat) undef).toI).toI,
            AV.int IntKind.i64
              (AV.int IntKind.i64
                  ((l.getD (IntKind.i64.wrap (IntKind.i64.wrap ((↑l.length : Int) - (1 : Int)) - i)).toNat
                            undef).cells.getD
                      (4 : Nat) undef).toI).toI,
            AV.int IntKind.i64
              (AV.int IntKind.i64
                  ((l.getD (IntKind.i64.wrap (IntKind.i64.wrap ((↑l.length : Int) - (1 : Int)) - i)).toNat
                            undef).cells.getD
                      (5 : Nat) undef).toI).toI,
            AV.int IntKind.i64
              (AV.int IntKind.i64
                  ((l.getD (IntKind.i64.wrap (IntKind.i64.wrap ((↑l.length : Int) - (1 : Int)) - i)).toNat
                            undef).cells.getD
                      (6 : Nat) undef).toI).toI,
            AV.int IntKind.i64
              (AV.int IntKind.i64
                  ((l.getD (IntKind.i64.wrap (IntKind.i64.wrap ((↑l.length : Int) - (1 : Int)) - i)).toNat
                            undef).cells.getD
                      (7 : Nat) undef).toI).toI,
            AV.int IntKind.i64
              (AV.int IntKind.i64
                  ((l.getD (IntKind.i64.wrap (IntKind.i64.wrap ((↑l.length : Int) - (1 : Int)) - i)).toNat
                            undef).cells.getD
                      (8 : Nat) undef).toI).toI,
            AV.int IntKind.i64
              (AV.int IntKind.i64
                  ((l.getD (IntKind.i64.wrap (IntKind.i64.wrap ((↑l.length : Int) - (1 : Int)) - i)).toNat
                            undef).cells.getD
                      (9 : Nat) undef).toI).toI]].all
    fun y => y.cells.all AV.leaf)
            (T.leaf (X.normal,
  [AV.lst 10 l Tl.open_,
    AV.lst 10
      (la ++
        [AV.agg
            [AV.int IntKind.i64 (AV.int IntKind.i64 ((l.getD i.toNat undef).cells.getD 0 undef).toI).toI,
              AV.int IntKind.i64 (AV.int IntKind.i64 ((l.getD i.toNat undef).cells.getD 1 undef).toI).toI,
              AV.int IntKind.i64 (AV.int IntKind.i64 ((l.getD i.toNat undef).cells.getD 2 undef).toI).toI,
              AV.int IntKind.i64 (AV.int IntKind.i64 ((l.getD i.toNat undef).cells.getD 3 undef).toI).toI,
              AV.int IntKind.i64 (AV.int IntKind.i64 ((l.getD i.toNat undef).cells.getD 4 undef).toI).toI,
              AV.int IntKind.i64 (AV.int IntKind.i64 ((l.getD i.toNat undef).cells.getD 5 undef).toI).toI,
              AV.int IntKind.i64 (AV.int IntKind.i64 ((l.getD i.toNat undef).cells.getD 6 undef).toI).toI,
              AV.int IntKind.i64 (AV.int IntKind.i64 ((l.getD i.toNat undef).cells.getD 7 undef).toI).toI,
              AV.int IntKind.i64 (AV.int IntKind.i64 ((l.getD i.toNat undef).cells.getD 8 undef).toI).toI,
              AV.int IntKind.i64 (AV.int IntKind.i64 ((l.getD i.toNat undef).cells.getD 9 undef).toI).toI]])
      (Tl.own 3),
    AV.lst 10
      (lb ++
        [AV.agg
            [AV.int IntKind.i64
                (AV.int IntKind.i64
                    ((l.getD (IntKind.i64.wrap (IntKind.i64.wrap ((↑l.length : Int) - 1) - i)).toNat undef).cells.getD 0
                        undef).toI).toI,
              AV.int IntKind.i64
                (AV.int IntKind.i64
                    ((l.getD (IntKind.i64.wrap (IntKind.i64.wrap ((↑l.length : Int) - 1) - i)).toNat undef).cells.getD 1
                        undef).toI).toI,
              AV.int IntKind.i64
                (AV.int IntKind.i64
                    ((l.getD (IntKind.i64.wrap (IntKind.i64.wrap ((↑l.length : Int) - 1) - i)).toNat undef).cells.getD 2
                        undef).toI).toI,
              AV.int IntKind.i64
                (AV.int IntKind.i64
                    ((l.getD (IntKind.i64.wrap (IntKind.i64.wrap ((↑l.length : Int) - 1) - i)).toNat undef).cells.getD 3
                        undef).toI).toI,
              AV.int IntKind.i64
                (AV.int IntKind.i64
                    ((l.getD (IntKind.i64.wrap (IntKind.i64.wrap ((↑l.length : Int) - 1) - i)).toNat undef).cells.getD 4
                        undef).toI).toI,
              AV.int IntKind.i64
                (AV.int IntKind.i64
                    ((l.getD (IntKind.i64.wrap (IntKind.i64.wrap ((↑l.length : Int) - 1) - i)).toNat undef).cells.getD 5
                        undef).toI).toI,
              AV.int IntKind.i64
                (AV.int IntKind.i64
                    ((l.getD (IntKind.i64.wrap (IntKind.i64.wrap ((↑l.length : Int) - 1) - i)).toNat undef).cells.getD 6
                        undef).toI).toI,
              AV.int IntKind.i64
                (AV.int IntKind.i64
                    ((l.getD (IntKind.i64.wrap (IntKind.i64.wrap ((↑l.length : Int) - 1) - i)).toNat undef).cells.getD 7
                        undef).toI).toI,
              AV.int IntKind.i64
                (AV.int IntKind.i64
                    ((l.getD (IntKind.i64.wrap (IntKind.i64.wrap ((↑l.length : Int) - 1) - i)).toNat undef).cells.getD 8
                        undef).toI).toI,
              AV.int IntKind.i64
                (AV.int IntKind.i64
                    ((l.getD (IntKind.i64.wrap (IntKind.i64.wrap ((↑l.length : Int) - 1) - i)).toNat undef).cells.getD 9
                        undef).toI).toI]])
      (Tl.own 5),
    AV.int IntKind.i64 (IntKind.i64.wrap (i + 1))],
  [Blk.dead, Blk.dead, Blk.tail, Blk.tail, Blk.tail, Blk.tail]))
            T.fail)
          T.fail)
        T.fail)
      T.fail)
    (T.leaf (X.exit 0, [AV.lst 10 l Tl.open_, AV.lst 10 la (Tl.own 0), AV.lst 10 lb (Tl.own 1), AV.int IntKind.i64 i],
  [Blk.tail, Blk.tail]))) := by kernel_rfl
theorem t3w (l : List AV) : runF X3 K3 Tryz.f3 b3 [.lst 10 l .open_] [] =
  (T.br (decide ((100 : Int) < (↑l.length : Int)))
    (T.leaf (AV.bool true, []))
    (T.br (l.all isS && decide (l.length ≤ (100 : Nat)) && decide ((0 : Int) = (0 : Int)))
      (T.br (l.isEmpty)
        (T.br (l.all isS && decide (l.length < (1000000000000000 : Nat)))
          (T.br (decS
      (AV.agg
        [AV.int IntKind.i64 (accN [] (0 : Nat) (0 : Nat)), AV.int IntKind.i64 (accN [] (0 : Nat) (1 : Nat)),
          AV.int IntKind.i64 (accN [] (0 : Nat) (2 : Nat)), AV.int IntKind.i64 (accN [] (0 : Nat) (3 : Nat)),
          AV.int IntKind.i64 (accN [] (0 : Nat) (4 : Nat)), AV.int IntKind.i64 (accN [] (0 : Nat) (5 : Nat)),
          AV.int IntKind.i64 (accN [] (0 : Nat) (6 : Nat)), AV.int IntKind.i64 (accN [] (0 : Nat) (7 : Nat)),
          AV.int IntKind.i64 (accN [] (0 : Nat) (8 : Nat)), AV.int IntKind.i64 (accN [] (0 : Nat) (9 : Nat))])
      (0 : Nat) ==
    accN (List.map decS l) l.length (0 : Nat) &&
  (decS
        (AV.agg
          [AV.int IntKind.i64 (accN [] (0 : Nat) (0 : Nat)), AV.int IntKind.i64 (accN [] (0 : Nat) (1 : Nat)),
            AV.int IntKind.i64 (accN [] (0 : Nat) (2 : Nat)), AV.int IntKind.i64 (accN [] (0 : Nat) (3 : Nat)),
            AV.int IntKind.i64 (accN [] (0 : Nat) (4 : Nat)), AV.int IntKind.i64 (accN [] (0 : Nat) (5 : Nat)),
            AV.int IntKind.i64 (accN [] (0 : Nat) (6 : Nat)), AV.int IntKind.i64 (accN [] (0 : Nat) (7 : Nat)),
            AV.int IntKind.i64 (accN [] (0 : Nat) (8 : Nat)), AV.int IntKind.i64 (accN [] (0 : Nat) (9 : Nat))])
        (1 : Nat) ==
      accN (List.map decS l) l.length (1 : Nat) &&
    (decS
          (AV.agg
            [AV.int IntKind.i64 (accN [] (0 : Nat) (0 : Nat)), AV.int IntKind.i64 (accN [] (0 : Nat) (1 : Nat)),
              AV.int IntKind.i64 (accN [] (0 : Nat) (2 : Nat)), AV.int IntKind.i64 (accN [] (0 : Nat) (3 : Nat)),
              AV.int IntKind.i64 (accN [] (0 : Nat) (4 : Nat)), AV.int IntKind.i64 (accN [] (0 : Nat) (5 : Nat)),
              AV.int IntKind.i64 (accN [] (0 : Nat) (6 : Nat)), AV.int IntKind.i64 (accN [] (0 : Nat) (7 : Nat)),
              AV.int IntKind.i64 (accN [] (0 : Nat) (8 : Nat)), AV.int IntKind.i64 (accN [] (0 : Nat) (9 : Nat))])
          (2 : Nat) ==
        accN (List.map decS l) l.length (2 : Nat) &&
      (decS
            (AV.agg
              [AV.int IntKind.i64 (accN [] (0 : Nat) (0 : Nat)), AV.int IntKind.i64 (accN [] (0 : Nat) (1 : Nat)),
                AV.int IntKind.i64 (accN [] (0 : Nat) (2 : Nat)), AV.int IntKind.i64 (accN [] (0 : Nat) (3 : Nat)),
                AV.int IntKind.i64 (accN [] (0 : Nat) (4 : Nat)), AV.int IntKind.i64 (accN [] (0 : Nat) (5 : Nat)),
                AV.int IntKind.i64 (accN [] (0 : Nat) (6 : Nat)), AV.int IntKind.i64 (accN [] (0 : Nat) (7 : Nat)),
                AV.int IntKind.i64 (accN [] (0 : Nat) (8 : Nat)), AV.int IntKind.i64 (accN [] (0 : Nat) (9 : Nat))])
            (3 : Nat) ==
          accN (List.map decS l) l.length (3 : Nat) &&
        (decS
              (AV.agg
                [AV.int IntKind.i64 (accN [] (0 : Nat) (0 : Nat)), AV.int IntKind.i64 (accN [] (0 : Nat) (1 : Nat)),
                  AV.int IntKind.i64 (accN [] (0 : Nat) (2 : Nat)), AV.int IntKind.i64 (accN [] (0 : Nat) (3 : Nat)),
                  AV.int IntKind.i64 (accN [] (0 : Nat) (4 : Nat)), AV.int IntKind.i64 (accN [] (0 : Nat) (5 : Nat)),
                  AV.int IntKind.i64 (accN [] (0 : Nat) (6 : Nat)), AV.int IntKind.i64 (accN [] (0 : Nat) (7 : Nat)),
                  AV.int IntKind.i64 (accN [] (0 : Nat) (8 : Nat)), AV.int IntKind.i64 (accN [] (0 : Nat) (9 : Nat))])
              (4 : Nat) ==
            accN (List.map decS l) l.length (4 : Nat) &&
          (decS
                (AV.agg
                  [AV.int IntKind.i64 (accN [] (0 : Nat) (0 : Nat)), AV.int IntKind.i64 (accN [] (0 : Nat) (1 : Nat)),
                    AV.int IntKind.i64 (accN [] (0 : Nat) (2 : Nat)), AV.int IntKind.i64 (accN [] (0 : Nat) (3 : Nat)),
                    AV.int IntKind.i64 (accN [] (0 : Nat) (4 : Nat)), AV.int IntKind.i64 (accN [] (0 : Nat) (5 : Nat)),
                    AV.int IntKind.i64 (accN [] (0 : Nat) (6 : Nat)), AV.int IntKind.i64 (accN [] (0 : Nat) (7 : Nat)),
                    AV.int IntKind.i64 (accN [] (0 : Nat) (8 : Nat)), AV.int IntKind.i64 (accN [] (0 : Nat) (9 : Nat))])
                (5 : Nat) ==
              accN (List.map decS l) l.length (5 : Nat) &&
            (decS
                  (AV.agg
                    [AV.int IntKind.i64 (accN [] (0 : Nat) (0 : Nat)), AV.int IntKind.i64 (accN [] (0 : Nat) (1 : Nat)),
                      AV.int IntKind.i64 (accN [] (0 : Nat) (2 : Nat)),
                      AV.int IntKind.i64 (accN [] (0 : Nat) (3 : Nat)),
                      AV.int IntKind.i64 (accN [] (0 : Nat) (4 : Nat)),
                      AV.int IntKind.i64 (accN [] (0 : Nat) (5 : Nat)),
                      AV.int IntKind.i64 (accN [] (0 : Nat) (6 : Nat)),
                      AV.int IntKind.i64 (accN [] (0 : Nat) (7 : Nat)),
                      AV.int IntKind.i64 (accN [] (0 : Nat) (8 : Nat)),
                      AV.int IntKind.i64 (accN [] (0 : Nat) (9 : Nat))])
                  (6 : Nat) ==
                accN (List.map decS l) l.length (6 : Nat) &&
              (decS
                    (AV.agg
                      [AV.int IntKind.i64 (accN [] (0 : Nat) (0 : Nat)),
                        AV.int IntKind.i64 (accN [] (0 : Nat) (1 : Nat)),
                        AV.int IntKind.i64 (accN [] (0 : Nat) (2 : Nat)),
                        AV.int IntKind.i64 (accN [] (0 : Nat) (3 : Nat)),
                        AV.int IntKind.i64 (accN [] (0 : Nat) (4 : Nat)),
                        AV.int IntKind.i64 (accN [] (0 : Nat) (5 : Nat)),
                        AV.int IntKind.i64 (accN [] (0 : Nat) (6 : Nat)),
                        AV.int IntKind.i64 (accN [] (0 : Nat) (7 : Nat)),
                        AV.int IntKind.i64 (accN [] (0 : Nat) (8 : Nat)),
                        AV.int IntKind.i64 (accN [] (0 : Nat) (9 : Nat))])
                    (7 : Nat) ==
                  accN (List.map decS l) l.length (7 : Nat) &&
                (decS
                      (AV.agg
                        [AV.int IntKind.i64 (accN [] (0 : Nat) (0 : Nat)),
                          AV.int IntKind.i64 (accN [] (0 : Nat) (1 : Nat)),
                          AV.int IntKind.i64 (accN [] (0 : Nat) (2 : Nat)),
                          AV.int IntKind.i64 (accN [] (0 : Nat) (3 : Nat)),
                          AV.int IntKind.i64 (accN [] (0 : Nat) (4 : Nat)),
                          AV.int IntKind.i64 (accN [] (0 : Nat) (5 : Nat)),
                          AV.int IntKind.i64 (accN [] (0 : Nat) (6 : Nat)),
                          AV.int IntKind.i64 (accN [] (0 : Nat) (7 : Nat)),
                          AV.int IntKind.i64 (accN [] (0 : Nat) (8 : Nat)),
                          AV.int IntKind.i64 (accN [] (0 : Nat) (9 : Nat))])
                      (8 : Nat) ==
                    accN (List.map decS l) l.length (8 : Nat) &&
                  (decS
                        (AV.agg
                          [AV.int IntKind.i64 (accN [] (0 : Nat) (0 : Nat)),
                            AV.int IntKind.i64 (accN [] (0 : Nat) (1 : Nat)),
                            AV.int IntKind.i64 (accN [] (0 : Nat) (2 : Nat)),
                            AV.int IntKind.i64 (accN [] (0 : Nat) (3 : Nat)),
                            AV.int IntKind.i64 (accN [] (0 : Nat) (4 : Nat)),
                            AV.int IntKind.i64 (accN [] (0 : Nat) (5 : Nat)),
                            AV.int IntKind.i64 (accN [] (0 : Nat) (6 : Nat)),
                            AV.int IntKind.i64 (accN [] (0 : Nat) (7 : Nat)),
                            AV.int IntKind.i64 (accN [] (0 : Nat) (8 : Nat)),
                            AV.int IntKind.i64 (accN [] (0 : Nat) (9 : Nat))])
                        (9 : Nat) ==
                      accN (List.map decS l) l.length (9 : Nat) &&
                    true))))))))))
            (T.br (l.all isS && decide (l.length < (1000000000000000 : Nat)))
              (T.br (decS
      (AV.agg
        [AV.int IntKind.i64 (accN [] (0 : Nat) (0 : Nat)), AV.int IntKind.i64 (accN [] (0 : Nat) (1 : Nat)),
          AV.int IntKind.i64 (accN [] (0 : Nat) (2 : Nat)), AV.int IntKind.i64 (accN [] (0 : Nat) (3 : Nat)),
          AV.int IntKind.i64 (accN [] (0 : Nat) (4 : Nat)), AV.int IntKind.i64 (accN [] (0 : Nat) (5 : Nat)),
          AV.int IntKind.i64 (accN [] (0 : Nat) (6 : Nat)), AV.int IntKind.i64 (accN [] (0 : Nat) (7 : Nat)),
          AV.int IntKind.i64 (accN [] (0 : Nat) (8 : Nat)), AV.int IntKind.i64 (accN [] (0 : Nat) (9 : Nat))])
      (0 : Nat) ==
    accN (List.map decS l) l.length (0 : Nat) &&
  (decS
        (AV.agg
          [AV.int IntKind.i64 (accN [] (0 : Nat) (0 : Nat)), AV.int IntKind.i64 (accN [] (0 : Nat) (1 : Nat)),
            AV.int IntKind.i64 (accN [] (0 : Nat) (2 : Nat)), AV.int IntKind.i64 (accN [] (0 : Nat) (3 : Nat)),
            AV.int IntKind.i64 (accN [] (0 : Nat) (4 : Nat)), AV.int IntKind.i64 (accN [] (0 : Nat) (5 : Nat)),
            AV.int IntKind.i64 (accN [] (0 : Nat) (6 : Nat)), AV.int IntKind.i64 (accN [] (0 : Nat) (7 : Nat)),
            AV.int IntKind.i64 (accN [] (0 : Nat) (8 : Nat)), AV.int IntKind.i64 (accN [] (0 : Nat) (9 : Nat))])
        (1 : Nat) ==
      accN (List.map decS l) l.length (1 : Nat) &&
    (decS
          (AV.agg
            [AV.int IntKind.i64 (accN [] (0 : Nat) (0 : Nat)), AV.int IntKind.i64 (accN [] (0 : Nat) (1 : Nat)),
              AV.int IntKind.i64 (accN [] (0 : Nat) (2 : Nat)), AV.int IntKind.i64 (accN [] (0 : Nat) (3 : Nat)),
              AV.int IntKind.i64 (accN [] (0 : Nat) (4 : Nat)), AV.int IntKind.i64 (accN [] (0 : Nat) (5 : Nat)),
              AV.int IntKind.i64 (accN [] (0 : Nat) (6 : Nat)), AV.int IntKind.i64 (accN [] (0 : Nat) (7 : Nat)),
              AV.int IntKind.i64 (accN [] (0 : Nat) (8 : Nat)), AV.int IntKind.i64 (accN [] (0 : Nat) (9 : Nat))])
          (2 : Nat) ==
        accN (List.map decS l) l.length (2 : Nat) &&
      (decS
            (AV.agg
              [AV.int IntKind.i64 (accN [] (0 : Nat) (0 : Nat)), AV.int IntKind.i64 (accN [] (0 : Nat) (1 : Nat)),
                AV.int IntKind.i64 (accN [] (0 : Nat) (2 : Nat)), AV.int IntKind.i64 (accN [] (0 : Nat) (3 : Nat)),
                AV.int IntKind.i64 (accN [] (0 : Nat) (4 : Nat)), AV.int IntKind.i64 (accN [] (0 : Nat) (5 : Nat)),
                AV.int IntKind.i64 (accN [] (0 : Nat) (6 : Nat)), AV.int IntKind.i64 (accN [] (0 : Nat) (7 : Nat)),
                AV.int IntKind.i64 (accN [] (0 : Nat) (8 : Nat)), AV.int IntKind.i64 (accN [] (0 : Nat) (9 : Nat))])
            (3 : Nat) ==
          accN (List.map decS l) l.length (3 : Nat) &&
        (decS
              (AV.agg
                [AV.int IntKind.i64 (accN [] (0 : Nat) (0 : Nat)), AV.int IntKind.i64 (accN [] (0 : Nat) (1 : Nat)),
                  AV.int IntKind.i64 (accN [] (0 : Nat) (2 : Nat)), AV.int IntKind.i64 (accN [] (0 : Nat) (3 : Nat)),
                  AV.int IntKind.i64 (accN [] (0 : Nat) (4 : Nat)), AV.int IntKind.i64 (accN [] (0 : Nat) (5 : Nat)),
                  AV.int IntKind.i64 (accN [] (0 : Nat) (6 : Nat)), AV.int IntKind.i64 (accN [] (0 : Nat) (7 : Nat)),
                  AV.int IntKind.i64 (accN [] (0 : Nat) (8 : Nat)), AV.int IntKind.i64 (accN [] (0 : Nat) (9 : Nat))])
              (4 : Nat) ==
            accN (List.map decS l) l.length (4 : Nat) &&
          (decS
                (AV.agg
                  [AV.int IntKind.i64 (accN [] (0 : Nat) (0 : Nat)), AV.int IntKind.i64 (accN [] (0 : Nat) (1 : Nat)),
                    AV.int IntKind.i64 (accN [] (0 : Nat) (2 : Nat)), AV.int IntKind.i64 (accN [] (0 : Nat) (3 : Nat)),
                    AV.int IntKind.i64 (accN [] (0 : Nat) (4 : Nat)), AV.int IntKind.i64 (accN [] (0 : Nat) (5 : Nat)),
                    AV.int IntKind.i64 (accN [] (0 : Nat) (6 : Nat)), AV.int IntKind.i64 (accN [] (0 : Nat) (7 : Nat)),
                    AV.int IntKind.i64 (accN [] (0 : Nat) (8 : Nat)), AV.int IntKind.i64 (accN [] (0 : Nat) (9 : Nat))])
                (5 : Nat) ==
              accN (List.map decS l) l.length (5 : Nat) &&
            (decS
                  (AV.agg
                    [AV.int IntKind.i64 (accN [] (0 : Nat) (0 : Nat)), AV.int IntKind.i64 (accN [] (0 : Nat) (1 : Nat)),
                      AV.int IntKind.i64 (accN [] (0 : Nat) (2 : Nat)),
                      AV.int IntKind.i64 (accN [] (0 : Nat) (3 : Nat)),
                      AV.int IntKind.i64 (accN [] (0 : Nat) (4 : Nat)),
                      AV.int IntKind.i64 (accN [] (0 : Nat) (5 : Nat)),
                      AV.int IntKind.i64 (accN [] (0 : Nat) (6 : Nat)),
                      AV.int IntKind.i64 (accN [] (0 : Nat) (7 : Nat)),
                      AV.int IntKind.i64 (accN [] (0 : Nat) (8 : Nat)),
                      AV.int IntKind.i64 (accN [] (0 : Nat) (9 : Nat))])
                  (6 : Nat) ==
                accN (List.map decS l) l.length (6 : Nat) &&
              (decS
                    (AV.agg
                      [AV.int IntKind.i64 (accN [] (0 : Nat) (0 : Nat)),
                        AV.int IntKind.i64 (accN [] (0 : Nat) (1 : Nat)),
                        AV.int IntKind.i64 (accN [] (0 : Nat) (2 : Nat)),
                        AV.int IntKind.i64 (accN [] (0 : Nat) (3 : Nat)),
                        AV.int IntKind.i64 (accN [] (0 : Nat) (4 : Nat)),
                        AV.int IntKind.i64 (accN [] (0 : Nat) (5 : Nat)),
                        AV.int IntKind.i64 (accN [] (0 : Nat) (6 : Nat)),
                        AV.int IntKind.i64 (accN [] (0 : Nat) (7 : Nat)),
                        AV.int IntKind.i64 (accN [] (0 : Nat) (8 : Nat)),
                        AV.int IntKind.i64 (accN [] (0 : Nat) (9 : Nat))])
                    (7 : Nat) ==
                  accN (List.map decS l) l.length (7 : Nat) &&
                (decS
                      (AV.agg
                        [AV.int IntKind.i64 (accN [] (0 : Nat) (0 : Nat)),
                          AV.int IntKind.i64 (accN [] (0 : Nat) (1 : Nat)),
                          AV.int IntKind.i64 (accN [] (0 : Nat) (2 : Nat)),
                          AV.int IntKind.i64 (accN [] (0 : Nat) (3 : Nat)),
                          AV.int IntKind.i64 (accN [] (0 : Nat) (4 : Nat)),
                          AV.int IntKind.i64 (accN [] (0 : Nat) (5 : Nat)),
                          AV.int IntKind.i64 (accN [] (0 : Nat) (6 : Nat)),
                          AV.int IntKind.i64 (accN [] (0 : Nat) (7 : Nat)),
                          AV.int IntKind.i64 (accN [] (0 : Nat) (8 : Nat)),
                          AV.int IntKind.i64 (accN [] (0 : Nat) (9 : Nat))])
                      (8 : Nat) ==
                    accN (List.map decS l) l.length (8 : Nat) &&
                  (decS
                        (AV.agg
                          [AV.int IntKind.i64 (accN [] (0 : Nat) (0 : Nat)),
                            AV.int IntKind.i64 (accN [] (0 : Nat) (1 : Nat)),
                            AV.int IntKind.i64 (accN [] (0 : Nat) (2 : Nat)),
                            AV.int IntKind.i64 (accN [] (0 : Nat) (3 : Nat)),
                            AV.int IntKind.i64 (accN [] (0 : Nat) (4 : Nat)),
                            AV.int IntKind.i64 (accN [] (0 : Nat) (5 : Nat)),
                            AV.int IntKind.i64 (accN [] (0 : Nat) (6 : Nat)),
                            AV.int IntKind.i64 (accN [] (0 : Nat) (7 : Nat)),
                            AV.int IntKind.i64 (accN [] (0 : Nat) (8 : Nat)),
                            AV.int IntKind.i64 (accN [] (0 : Nat) (9 : Nat))])
                        (9 : Nat) ==
                      accN (List.map decS l) l.length (9 : Nat) &&
                    true))))))))))
                (T.leaf (AV.bool true, []))
                (T.leaf (AV.bool false, [])))
              T.fail)
            (T.br false
              (T.leaf (AV.bool true, []))
              (T.leaf (AV.bool false, []))))
          T.fail)
        (T.br (l.all isS && decide (l.length < (1000000000000000 : Nat)))
          (T.br (l.all isS && decide (l.length < (1000000000000000 : Nat)))
            (T.br (decS
      (AV.agg
        [AV.int IntKind.i64 (accN (List.map decS l) l.length (0 : Nat)),
          AV.int IntKind.i64 (accN (List.map decS l) l.length (1 : Nat)),
          AV.int IntKind.i64 (accN (List.map decS l) l.length (2 : Nat)),
          AV.int IntKind.i64 (accN (List.map decS l) l.length (3 : Nat)),
          AV.int IntKind.i64 (accN (List.map decS l) l.length (4 : Nat)),
          AV.int IntKind.i64 (accN (List.map decS l) l.length (5 : Nat)),
          AV.int IntKind.i64 (accN (List.map decS l) l.length (6 : Nat)),
          AV.int IntKind.i64 (accN (List.map decS l) l.length (7 : Nat)),
          AV.int IntKind.i64 (accN (List.map decS l) l.length (8 : Nat)),
          AV.int IntKind.i64 (accN (List.map decS l) l.length (9 : Nat))])
      (0 : Nat) ==
    accN (List.map decS l) l.length (0 : Nat) &&
  (decS
        (AV.agg
          [AV.int IntKind.i64 (accN (List.map decS l) l.length (0 : Nat)),
            AV.int IntKind.i64 (accN (List.map decS l) l.length (1 : Nat)),
            AV.int IntKind.i64 (accN (List.map decS l) l.length (2 : Nat)),
            AV.int IntKind.i64 (accN (List.map decS l) l.length (3 : Nat)),
            AV.int IntKind.i64 (accN (List.map decS l) l.length (4 : Nat)),
            AV.int IntKind.i64 (accN (List.map decS l) l.length (5 : Nat)),
            AV.int IntKind.i64 (accN (List.map decS l) l.length (6 : Nat)),
            AV.int IntKind.i64 (accN (List.map decS l) l.length (7 : Nat)),
            AV.int IntKind.i64 (accN (List.map decS l) l.length (8 : Nat)),
            AV.int IntKind.i64 (accN (List.map decS l) l.length (9 : Nat))])
        (1 : Nat) ==
      accN (List.map decS l) l.length (1 : Nat) &&
    (decS
          (AV.agg
            [AV.int IntKind.i64 (accN (List.map decS l) l.length (0 : Nat)),
              AV.int IntKind.i64 (accN (List.map decS l) l.length (1 : Nat)),
              AV.int IntKind.i64 (accN (List.map decS l) l.length (2 : Nat)),
              AV.int IntKind.i64 (accN (List.map decS l) l.length (3 : Nat)),
              AV.int IntKind.i64 (accN (List.map decS l) l.length (4 : Nat)),
              AV.int IntKind.i64 (accN (List.map decS l) l.length (5 : Nat)),
              AV.int IntKind.i64 (accN (List.map decS l) l.length (6 : Nat)),
              AV.int IntKind.i64 (accN (List.map decS l) l.length (7 : Nat)),
              AV.int IntKind.i64 (accN (List.map decS l) l.length (8 : Nat)),
              AV.int IntKind.i64 (accN (List.map decS l) l.length (9 : Nat))])
          (2 : Nat) ==
        accN (List.map decS l) l.length (2 : Nat) &&
      (decS
            (AV.agg
              [AV.int IntKind.i64 (accN (List.map decS l) l.length (0 : Nat)),
                AV.int IntKind.i64 (accN (List.map decS l) l.length (1 : Nat)),
                AV.int IntKind.i64 (accN (List.map decS l) l.length (2 : Nat)),
                AV.int IntKind.i64 (accN (List.map decS l) l.length (3 : Nat)),
                AV.int IntKind.i64 (accN (List.map decS l) l.length (4 : Nat)),
                AV.int IntKind.i64 (accN (List.map decS l) l.length (5 : Nat)),
                AV.int IntKind.i64 (accN (List.map decS l) l.length (6 : Nat)),
                AV.int IntKind.i64 (accN (List.map decS l) l.length (7 : Nat)),
                AV.int IntKind.i64 (accN (List.map decS l) l.length (8 : Nat)),
                AV.int IntKind.i64 (accN (List.map decS l) l.length (9 : Nat))])
            (3 : Nat) ==
          accN (List.map decS l) l.length (3 : Nat) &&
        (decS
              (AV.agg
                [AV.int IntKind.i64 (accN (List.map decS l) l.length (0 : Nat)),
                  AV.int IntKind.i64 (accN (List.map decS l) l.length (1 : Nat)),
                  AV.int IntKind.i64 (accN (List.map decS l) l.length (2 : Nat)),
                  AV.int IntKind.i64 (accN (List.map decS l) l.length (3 : Nat)),
                  AV.int IntKind.i64 (accN (List.map decS l) l.length (4 : Nat)),
                  AV.int IntKind.i64 (accN (List.map decS l) l.length (5 : Nat)),
                  AV.int IntKind.i64 (accN (List.map decS l) l.length (6 : Nat)),
                  AV.int IntKind.i64 (accN (List.map decS l) l.length (7 : Nat)),
                  AV.int IntKind.i64 (accN (List.map decS l) l.length (8 : Nat)),
                  AV.int IntKind.i64 (accN (List.map decS l) l.length (9 : Nat))])
              (4 : Nat) ==
            accN (List.map decS l) l.length (4 : Nat) &&
          (decS
                (AV.agg
                  [AV.int IntKind.i64 (accN (List.map decS l) l.length (0 : Nat)),
                    AV.int IntKind.i64 (accN (List.map decS l) l.length (1 : Nat)),
                    AV.int IntKind.i64 (accN (List.map decS l) l.length (2 : Nat)),
                    AV.int IntKind.i64 (accN (List.map decS l) l.length (3 : Nat)),
                    AV.int IntKind.i64 (accN (List.map decS l) l.length (4 : Nat)),
                    AV.int IntKind.i64 (accN (List.map decS l) l.length (5 : Nat)),
                    AV.int IntKind.i64 (accN (List.map decS l) l.length (6 : Nat)),
                    AV.int IntKind.i64 (accN (List.map decS l) l.length (7 : Nat)),
                    AV.int IntKind.i64 (accN (List.map decS l) l.length (8 : Nat)),
                    AV.int IntKind.i64 (accN (List.map decS l) l.length (9 : Nat))])
                (5 : Nat) ==
              accN (List.map decS l) l.length (5 : Nat) &&
            (decS
                  (AV.agg
                    [AV.int IntKind.i64 (accN (List.map decS l) l.length (0 : Nat)),
                      AV.int IntKind.i64 (accN (List.map decS l) l.length (1 : Nat)),
                      AV.int IntKind.i64 (accN (List.map decS l) l.length (2 : Nat)),
                      AV.int IntKind.i64 (accN (List.map decS l) l.length (3 : Nat)),
                      AV.int IntKind.i64 (accN (List.map decS l) l.length (4 : Nat)),
                      AV.int IntKind.i64 (accN (List.map decS l) l.length (5 : Nat)),
                      AV.int IntKind.i64 (accN (List.map decS l) l.length (6 : Nat)),
                      AV.int IntKind.i64 (accN (List.map decS l) l.length (7 : Nat)),
                      AV.int IntKind.i64 (accN (List.map decS l) l.length (8 : Nat)),
                      AV.int IntKind.i64 (accN (List.map decS l) l.length (9 : Nat))])
                  (6 : Nat) ==
                accN (List.map decS l) l.length (6 : Nat) &&
              (decS
                    (AV.agg
                      [AV.int IntKind.i64 (accN (List.map decS l) l.length (0 : Nat)),
                        AV.int IntKind.i64 (accN (List.map decS l) l.length (1 : Nat)),
                        AV.int IntKind.i64 (accN (List.map decS l) l.length (2 : Nat)),
                        AV.int IntKind.i64 (accN (List.map decS l) l.length (3 : Nat)),
                        AV.int IntKind.i64 (accN (List.map decS l) l.length (4 : Nat)),
                        AV.int IntKind.i64 (accN (List.map decS l) l.length (5 : Nat)),
                        AV.int IntKind.i64 (accN (List.map decS l) l.length (6 : Nat)),
                        AV.int IntKind.i64 (accN (List.map decS l) l.length (7 : Nat)),
                        AV.int IntKind.i64 (accN (List.map decS l) l.length (8 : Nat)),
                        AV.int IntKind.i64 (accN (List.map decS l) l.length (9 : Nat))])
                    (7 : Nat) ==
                  accN (List.map decS l) l.length (7 : Nat) &&
                (decS
                      (AV.agg
                        [AV.int IntKind.i64 (accN (List.map decS l) l.length (0 : Nat)),
                          AV.int IntKind.i64 (accN (List.map decS l) l.length (1 : Nat)),
                          AV.int IntKind.i64 (accN (List.map decS l) l.length (2 : Nat)),
                          AV.int IntKind.i64 (accN (List.map decS l) l.length (3 : Nat)),
                          AV.int IntKind.i64 (accN (List.map decS l) l.length (4 : Nat)),
                          AV.int IntKind.i64 (accN (List.map decS l) l.length (5 : Nat)),
                          AV.int IntKind.i64 (accN (List.map decS l) l.length (6 : Nat)),
                          AV.int IntKind.i64 (accN (List.map decS l) l.length (7 : Nat)),
                          AV.int IntKind.i64 (accN (List.map decS l) l.length (8 : Nat)),
                          AV.int IntKind.i64 (accN (List.map decS l) l.length (9 : Nat))])
                      (8 : Nat) ==
                    accN (List.map decS l) l.length (8 : Nat) &&
                  (decS
                        (AV.agg
                          [AV.int IntKind.i64 (accN (List.map decS l) l.length (0 : Nat)),
                            AV.int IntKind.i64 (accN (List.map decS l) l.length (1 : Nat)),
                            AV.int IntKind.i64 (accN (List.map decS l) l.length (2 : Nat)),
                            AV.int IntKind.i64 (accN (List.map decS l) l.length (3 : Nat)),
                            AV.int IntKind.i64 (accN (List.map decS l) l.length (4 : Nat)),
                            AV.int IntKind.i64 (accN (List.map decS l) l.length (5 : Nat)),
                            AV.int IntKind.i64 (accN (List.map decS l) l.length (6 : Nat)),
                            AV.int IntKind.i64 (accN (List.map decS l) l.length (7 : Nat)),
                            AV.int IntKind.i64 (accN (List.map decS l) l.length (8 : Nat)),
                            AV.int IntKind.i64 (accN (List.map decS l) l.length (9 : Nat))])
                        (9 : Nat) ==
                      accN (List.map decS l) l.length (9 : Nat) &&
                    true))))))))))
              (T.br (l.reverse.all isS && decide (l.reverse.length < (1000000000000000 : Nat)))
                (T.br (l.all isS && decide (l.length < (1000000000000000 : Nat)))
                  (T.br (decS
      (AV.agg
        [AV.int IntKind.i64 (accN (List.map decS l.reverse) l.reverse.length (0 : Nat)),
          AV.int IntKind.i64 (accN (List.map decS l.reverse) l.reverse.length (1 : Nat)),
          AV.int IntKind.i64 (accN (List.map decS l.reverse) l.reverse.length (2 : Nat)),
          AV.int IntKind.i64 (accN (List.map decS l.reverse) l.reverse.length (3 : Nat)),
          AV.int IntKind.i64 (accN (List.map decS l.reverse) l.reverse.length (4 : Nat)),
          AV.int IntKind.i64 (accN (List.map decS l.reverse) l.reverse.length (5 : Nat)),
          AV.int IntKind.i64 (accN (List.map decS l.reverse) l.reverse.length (6 : Nat)),
          AV.int IntKind.i64 (accN (List.map decS l.reverse) l.reverse.length (7 : Nat)),
          AV.int IntKind.i64 (accN (List.map decS l.reverse) l.reverse.length (8 : Nat)),
          AV.int IntKind.i64 (accN (List.map decS l.reverse) l.reverse.length (9 : Nat))])
      (0 : Nat) ==
    accN (List.map decS l) l.length (0 : Nat) &&
  (decS
        (AV.agg
          [AV.int IntKind.i64 (accN (List.map decS l.reverse) l.reverse.length (0 : Nat)),
            AV.int IntKind.i64 (accN (List.map decS l.reverse) l.reverse.length (1 : Nat)),
            AV.int IntKind.i64 (accN (List.map decS l.reverse) l.reverse.length (2 : Nat)),
            AV.int IntKind.i64 (accN (List.map decS l.reverse) l.reverse.length (3 : Nat)),
            AV.int IntKind.i64 (accN (List.map decS l.reverse) l.reverse.length (4 : Nat)),
            AV.int IntKind.i64 (accN (List.map decS l.reverse) l.reverse.length (5 : Nat)),
            AV.int IntKind.i64 (accN (List.map decS l.reverse) l.reverse.length (6 : Nat)),
            AV.int IntKind.i64 (accN (List.map decS l.reverse) l.reverse.length (7 : Nat)),
            AV.int IntKind.i64 (accN (List.map decS l.reverse) l.reverse.length (8 : Nat)),
            AV.int IntKind.i64 (accN (List.map decS l.reverse) l.reverse.length (9 : Nat))])
        (1 : Nat) ==
      accN (List.map decS l) l.length (1 : Nat) &&
    (decS
          (AV.agg
            [AV.int IntKind.i64 (accN (List.map decS l.reverse) l.reverse.length (0 : Nat)),
              AV.int IntKind.i64 (accN (List.map decS l.reverse) l.reverse.length (1 : Nat)),
              AV.int IntKind.i64 (accN (List.map decS l.reverse) l.reverse.length (2 : Nat)),
              AV.int IntKind.i64 (accN (List.map decS l.reverse) l.reverse.length (3 : Nat)),
              AV.int IntKind.i64 (accN (List.map decS l.reverse) l.reverse.length (4 : Nat)),
              AV.int IntKind.i64 (accN (List.map decS l.reverse) l.reverse.length (5 : Nat)),
              AV.int IntKind.i64 (accN (List.map decS l.reverse) l.reverse.length (6 : Nat)),
              AV.int IntKind.i64 (accN (List.map decS l.reverse) l.reverse.length (7 : Nat)),
              AV.int IntKind.i64 (accN (List.map decS l.reverse) l.reverse.length (8 : Nat)),
              AV.int IntKind.i64 (accN (List.map decS l.reverse) l.reverse.length (9 : Nat))])
          (2 : Nat) ==
        accN (List.map decS l) l.length (2 : Nat) &&
      (decS
            (AV.agg
              [AV.int IntKind.i64 (accN (List.map decS l.reverse) l.reverse.length (0 : Nat)),
                AV.int IntKind.i64 (accN (List.map decS l.reverse) l.reverse.length (1 : Nat)),
                AV.int IntKind.i64 (accN (List.map decS l.reverse) l.reverse.length (2 : Nat)),
                AV.int IntKind.i64 (accN (List.map decS l.reverse) l.reverse.length (3 : Nat)),
                AV.int IntKind.i64 (accN (List.map decS l.reverse) l.reverse.length (4 : Nat)),
                AV.int IntKind.i64 (accN (List.map decS l.reverse) l.reverse.length (5 : Nat)),
                AV.int IntKind.i64 (accN (List.map decS l.reverse) l.reverse.length (6 : Nat)),
                AV.int IntKind.i64 (accN (List.map decS l.reverse) l.reverse.length (7 : Nat)),
                AV.int IntKind.i64 (accN (List.map decS l.reverse) l.reverse.length (8 : Nat)),
                AV.int IntKind.i64 (accN (List.map decS l.reverse) l.reverse.length (9 : Nat))])
            (3 : Nat) ==
          accN (List.map decS l) l.length (3 : Nat) &&
        (decS
              (AV.agg
                [AV.int IntKind.i64 (accN (List.map decS l.reverse) l.reverse.length (0 : Nat)),
                  AV.int IntKind.i64 (accN (List.map decS l.reverse) l.reverse.length (1 : Nat)),
                  AV.int IntKind.i64 (accN (List.map decS l.reverse) l.reverse.length (2 : Nat)),
                  AV.int IntKind.i64 (accN (List.map decS l.reverse) l.reverse.length (3 : Nat)),
                  AV.int IntKind.i64 (accN (List.map decS l.reverse) l.reverse.length (4 : Nat)),
                  AV.int IntKind.i64 (accN (List.map decS l.reverse) l.reverse.length (5 : Nat)),
                  AV.int IntKind.i64 (accN (List.map decS l.reverse) l.reverse.length (6 : Nat)),
                  AV.int IntKind.i64 (accN (List.map decS l.reverse) l.reverse.length (7 : Nat)),
                  AV.int IntKind.i64 (accN (List.map decS l.reverse) l.reverse.length (8 : Nat)),
                  AV.int IntKind.i64 (accN (List.map decS l.reverse) l.reverse.length (9 : Nat))])
              (4 : Nat) ==
            accN (List.map decS l) l.length (4 : Nat) &&
          (decS
                (AV.agg
                  [AV.int IntKind.i64 (accN (List.map decS l.reverse) l.reverse.length (0 : Nat)),
                    AV.int IntKind.i64 (accN (List.map decS l.reverse) l.reverse.length (1 : Nat)),
                    AV.int IntKind.i64 (accN (List.map decS l.reverse) l.reverse.length (2 : Nat)),
                    AV.int IntKind.i64 (accN (List.map decS l.reverse) l.reverse.length (3 : Nat)),
                    AV.int IntKind.i64 (accN (List.map decS l.reverse) l.reverse.length (4 : Nat)),
                    AV.int IntKind.i64 (accN (List.map decS l.reverse) l.reverse.length (5 : Nat)),
                    AV.int IntKind.i64 (accN (List.map decS l.reverse) l.reverse.length (6 : Nat)),
                    AV.int IntKind.i64 (accN (List.map decS l.reverse) l.reverse.length (7 : Nat)),
                    AV.int IntKind.i64 (accN (List.map decS l.reverse) l.reverse.length (8 : Nat)),
                    AV.int IntKind.i64 (accN (List.map decS l.reverse) l.reverse.length (9 : Nat))])
                (5 : Nat) ==
              accN (List.map decS l) l.length (5 : Nat) &&
            (decS
                  (AV.agg
                    [AV.int IntKind.i64 (accN (List.map decS l.reverse) l.reverse.length (0 : Nat)),
                      AV.int IntKind.i64 (accN (List.map decS l.reverse) l.reverse.length (1 : Nat)),
                      AV.int IntKind.i64 (accN (List.map decS l.reverse) l.reverse.length (2 : Nat)),
                      AV.int IntKind.i64 (accN (List.map decS l.reverse) l.reverse.length (3 : Nat)),
                      AV.int IntKind.i64 (accN (List.map decS l.reverse) l.reverse.length (4 : Nat)),
                      AV.int IntKind.i64 (accN (List.map decS l.reverse) l.reverse.length (5 : Nat)),
                      AV.int IntKind.i64 (accN (List.map decS l.reverse) l.reverse.length (6 : Nat)),
                      AV.int IntKind.i64 (accN (List.map decS l.reverse) l.reverse.length (7 : Nat)),
                      AV.int IntKind.i64 (accN (List.map decS l.reverse) l.reverse.length (8 : Nat)),
                      AV.int IntKind.i64 (accN (List.map decS l.reverse) l.reverse.length (9 : Nat))])
                  (6 : Nat) ==
                accN (List.map decS l) l.length (6 : Nat) &&
              (decS
                    (AV.agg
                      [AV.int IntKind.i64 (accN (List.map decS l.reverse) l.reverse.length (0 : Nat)),
                        AV.int IntKind.i64 (accN (List.map decS l.reverse) l.reverse.length (1 : Nat)),
                        AV.int IntKind.i64 (accN (List.map decS l.reverse) l.reverse.length (2 : Nat)),
                        AV.int IntKind.i64 (accN (List.map decS l.reverse) l.reverse.length (3 : Nat)),
                        AV.int IntKind.i64 (accN (List.map decS l.reverse) l.reverse.length (4 : Nat)),
                        AV.int IntKind.i64 (accN (List.map decS l.reverse) l.reverse.length (5 : Nat)),
                        AV.int IntKind.i64 (accN (List.map decS l.reverse) l.reverse.length (6 : Nat)),
                        AV.int IntKind.i64 (accN (List.map decS l.reverse) l.reverse.length (7 : Nat)),
                        AV.int IntKind.i64 (accN (List.map decS l.reverse) l.reverse.length (8 : Nat)),
                        AV.int IntKind.i64 (accN (List.map decS l.reverse) l.reverse.length (9 : Nat))])
                    (7 : Nat) ==
                  accN (List.map decS l) l.length (7 : Nat) &&
                (decS
                      (AV.agg
                        [AV.int IntKind.i64 (accN (List.map decS l.reverse) l.reverse.length (0 : Nat)),
                          AV.int IntKind.i64 (accN (List.map decS l.reverse) l.reverse.length (1 : Nat)),
                          AV.int IntKind.i64 (accN (List.map decS l.reverse) l.reverse.length (2 : Nat)),
                          AV.int IntKind.i64 (accN (List.map decS l.reverse) l.reverse.length (3 : Nat)),
                          AV.int IntKind.i64 (accN (List.map decS l.reverse) l.reverse.length (4 : Nat)),
                          AV.int IntKind.i64 (accN (List.map decS l.reverse) l.reverse.length (5 : Nat)),
                          AV.int IntKind.i64 (accN (List.map decS l.reverse) l.reverse.length (6 : Nat)),
                          AV.int IntKind.i64 (accN (List.map decS l.reverse) l.reverse.length (7 : Nat)),
                          AV.int IntKind.i64 (accN (List.map decS l.reverse) l.reverse.length (8 : Nat)),
                          AV.int IntKind.i64 (accN (List.map decS l.reverse) l.reverse.length (9 : Nat))])
                      (8 : Nat) ==
                    accN (List.map decS l) l.length (8 : Nat) &&
                  (decS
                        (AV.agg
                          [AV.int IntKind.i64 (accN (List.map decS l.reverse) l.reverse.length (0 : Nat)),
                            AV.int IntKind.i64 (accN (List.map decS l.reverse) l.reverse.length (1 : Nat)),
                            AV.int IntKind.i64 (accN (List.map decS l.reverse) l.reverse.length (2 : Nat)),
                            AV.int IntKind.i64 (accN (List.map decS l.reverse) l.reverse.length (3 : Nat)),
                            AV.int IntKind.i64 (accN (List.map decS l.reverse) l.reverse.length (4 : Nat)),
                            AV.int IntKind.i64 (accN (List.map decS l.reverse) l.reverse.length (5 : Nat)),
                            AV.int IntKind.i64 (accN (List.map decS l.reverse) l.reverse.length (6 : Nat)),
                            AV.int IntKind.i64 (accN (List.map decS l.reverse) l.reverse.length (7 : Nat)),
                            AV.int IntKind.i64 (accN (List.map decS l.reverse) l.reverse.length (8 : Nat)),
                            AV.int IntKind.i64 (accN (List.map decS l.reverse) l.reverse.length (9 : Nat))])
                        (9 : Nat) ==
                      accN (List.map decS l) l.length (9 : Nat) &&
                    true))))))))))
                    (T.leaf (AV.bool true, [Blk.tail, Blk.tail]))
                    (T.leaf (AV.bool false, [Blk.tail, Blk.tail])))
                  T.fail)
                T.fail)
              (T.br false
                (T.leaf (AV.bool true, [Blk.tail, Blk.tail]))
                (T.leaf (AV.bool false, [Blk.tail, Blk.tail]))))
            T.fail)
          T.fail))
      T.fail)) := by kernel_rfl

abbrev P3 : List Nat := [1,1,1,1,0,1,0,0]
theorem noRefs_enc (ss : List (Nat → Int)) : noRefs (ss.map encS) = true := by
  induction ss with
  | nil => rfl
  | cons s ss ih => simp only [List.map_cons, noRefs, ih, Bool.and_true]; rfl
/-- what the calls come to: each on its own. -/
theorem con56 (f : Nat) (hf : f = 5 ∨ f = 6) (s : Nat → Int) (h : H) : Con E0 f [encS s] h (encS s) h := by
  rcases hf with rfl | rfl
  · have := Con.of_run (X := X5) (f := 5) g0 (noCalls fun _ _ _ => rfl) (fn := Tryz.f5) Tryz.func5 (c := b5) rfl rfl KOK.none (congrArg T.run (t5 s))
    exact Con.base noG0 this rfl rfl h
  · have := Con.of_run (X := { X5 with f := 6 }) (f := 6) g0 (noCalls fun _ _ _ => rfl) (fn := Tryz.f6) Tryz.func6 (c := b6) rfl rfl KOK.none (congrArg T.run (t6 s))
    exact Con.base noG0 this rfl rfl h
theorem con78 (f : Nat) (hf : f = 7 ∨ f = 8) (ss : List (Nat → Int)) (hl : ss.length < 1000000000000000) (h : H) : Con E0 f [.lst 10 (ss.map encS) .open_] h (encS (accN ((ss.map encS).map decS) (ss.map encS).length)) h := by
  have hS : (ss.map encS).all isS = true := by
    rw [List.all_map]; exact List.all_eq_true.2 fun _ _ => rfl
  have h2 : decide ((ss.map encS).length < 1000000000000000) = true := by simp; exact hl
  have hn : noRefs [AV.lst 10 (ss.map encS) .open_] = true := by simp [noRefs, noRef, noRefs_enc]
  rcases hf with rfl | rfl
  · have ht := t7w (ss.map encS)
    rw [hS, h2] at ht
    have := Con.of_run (X := X7) (f := 7) g0 (noCalls fun _ _ _ => rfl) (fn := Tryz.f7) Tryz.func7 (c := b7) rfl rfl (args := [.lst 10 (ss.map encS) .open_]) (h := []) kok7 ((congrArg T.run ht).trans (by simp only [decide_true, Bool.and_self, T.run]; rfl))
    exact Con.base noG0 this hn rfl h
  · have ht := t8w (ss.map encS)
    rw [hS, h2] at ht
    have := Con.of_run (X := X8) (f := 8) g0 (noCalls fun _ _ _ => rfl) (fn := Tryz.f8) Tryz.func8 (c := b8) rfl rfl (args := [.lst 10 (ss.map encS) .open_]) (h := []) kok8 ((congrArg T.run ht).trans (by simp only [decide_true, Bool.and_self, T.run]; rfl))
    exact Con.base noG0 this hn rfl h
theorem call3_ok (known4 : ∀ h, Con E0 4 [] h (.bool true) h) : CallOK X3.E X3.calls := by
  intro f args h r h' hc
  have hc' : (call3 f args h).run = .ok (r, h') := hc
  show Con E0 f args h r h'
  unfold call3 at hc'
  split at hc'
  · rename_i hf; subst hf
    split at hc'
    · cases hc'; exact known4 h
    · cases hc'
  · split at hc'
    · rename_i hf
      split at hc'
      · rename_i v
        split at hc'
        · rename_i hS
          cases hc'
          have := con56 f hf (decS v) h
          rwa [← isS_enc hS] at this ⊢
        · cases hc'
      · cases hc'
    · split at hc'
      · rename_i hf
        split at hc'
        · cases hc'
          exact (con78 f hf [] (by simp) h).args (.cons (Le.nils nofun) .nil)
        · rename_i l tl
          obtain ⟨hc1, hc2⟩ := brf_ok hc'
          cases hc2
          simp only [Bool.and_eq_true, decide_eq_true_eq] at hc1
          obtain ⟨ss, hss, hle⟩ := allS hc1.1
          have := con78 f hf ss (by have := hc1.2; rw [hle] at this; simpa using this) h
          rw [← hle] at this
          exact this.args (.cons Le.open_ .nil)
        · cases hc'
      · cases hc'
def st3 (ss : List (Nat → Int)) (j : Nat) : List (Nat × AV) := [(0, .lst 10 (ss.map encS) .open_), (3, .lst 10 ((ss.take j).map encS) (.own 0)), (4, .lst 10 ((ss.reverse.take j).map encS) (.own 1)), (5, .int .i64 j)]
def st3x (a b : Nat) (ss : List (Nat → Int)) (j : Nat) : List (Nat × AV) := [(0, .lst 10 (ss.map encS) .open_), (3, .lst 10 ((ss.take j).map encS) (.own a)), (4, .lst 10 ((ss.reverse.take j).map encS) (.own b)), (5, .int .i64 j)]
def st3n (ss : List (Nat → Int)) : List (Nat × AV) := [(0, .lst 10 (ss.map encS) .open_), (3, .nils), (4, .nils), (5, .int .i64 0)]
theorem encS_of (s : Nat → Int) : AV.agg [.int .i64 (s 0), .int .i64 (s 1), .int .i64 (s 2), .int .i64 (s 3), .int .i64 (s 4), .int .i64 (s 5), .int .i64 (s 6), .int .i64 (s 7), .int .i64 (s 8), .int .i64 (s 9)] = encS s := rfl
theorem take_succ' {α : Type} {l : List α} {j : Nat} {d : α} (h : j < l.length) : l.take (j + 1) = l.take j ++ [l.getD j d] := by
  rw [List.take_succ_eq_append_getElem h]; simp [List.getD_eq_getElem?_getD, List.getElem?_eq_getElem h]
theorem rev_get {α : Type} {l : List α} {j : Nat} {d : α} (h : j < l.length) : l.reverse.getD j d = l.getD (l.length - 1 - j) d := by
  simp [List.getD_eq_getElem?_getD, List.getElem?_reverse h]
theorem back_at {n j : Nat} (hj : j < n) (hn : n ≤ 100) : IntKind.i64.wrap (IntKind.i64.wrap ((n : Int) - 1) - j) = ((n - 1 - j : Nat) : Int) := by
  rw [wrap64 (n := (n : Int) - 1) (by omega) (by omega), wrap64 (by omega) (by omega)]; omega
theorem round3n (ss : List (Nat → Int)) (h0 : 0 < ss.length) (hl : ss.length ≤ 100) :
    (obsK X3 (fun _ => none) 53 (sub b3 P3) P3 (frm (st3n ss)) [] [0,3,4,5]).run = .ok (.normal, (st3x 1 3 ss 1).map (·.2), [.tail, .tail, .tail, .tail]) := by
  have ht := t3n (ss.map encS) ((0 : Nat) : Int)
  have hlen : (ss.map encS).length = ss.length := by simp
  have hb := back_at (n := ss.length) (j := 0) h0 hl
  have hlt : ss.length - 1 - 0 < ss.length := by omega
  have h1 : decide (((0 : Nat) : Int) < (ss.length : Int)) = true := by simp; omega
  have h2 : decide ((0 : Int) ≤ ((0 : Nat) : Int)) = true := rfl
  have h3 : decide ((0 : Int) ≤ ((ss.length - 1 - 0 : Nat) : Int)) = true := by simp
  have h4 : decide (((ss.length - 1 - 0 : Nat) : Int) < (ss.length : Int)) = true := by simp; omega
  rw [hlen, hb] at ht
  simp only [Int.toNat_natCast, getD_enc h0, getD_enc hlt, fits28, h1, h2, h3, h4, Bool.and_self] at ht
  refine (congrArg T.run ht).trans ?_
  simp only [T.run, st3x]
  have e1 : ss.take 1 = [ss.getD 0 (fun _ => 0)] := by rw [take_succ' (d := fun _ => 0) h0]; rfl
  have e2 : ss.reverse.take 1 = [ss.getD (ss.length - 1 - 0) (fun _ => 0)] := by rw [take_succ' (d := fun _ => 0) (by simpa using h0), rev_get h0]; rfl
  rw [e1, e2]
  generalize ss.getD 0 (fun _ => 0) = x
  generalize ss.getD (ss.length - 1 - 0) (fun _ => 0) = y
  rfl
theorem round3 (ss : List (Nat → Int)) (j : Nat) (h0 : j < ss.length) (hl : ss.length ≤ 100) :
    (obsK X3 (fun _ => none) 53 (sub b3 P3) P3 (frm (st3 ss j)) [.tail, .tail] [0,3,4,5]).run = .ok (.normal, (st3x 3 5 ss (j + 1)).map (·.2), [.dead, .dead, .tail, .tail, .tail, .tail]) := by
  have ht := t3o (ss.map encS) ((ss.take j).map encS) ((ss.reverse.take j).map encS) (j : Int)
  have hlen : (ss.map encS).length = ss.length := by simp
  have hla : ((ss.take j).map encS).length = j := by simp; omega
  have hlb : ((ss.reverse.take j).map encS).length = j := by simp; omega
  have hb := back_at (n := ss.length) (j := j) h0 hl
  have hlt : ss.length - 1 - j < ss.length := by omega
  have h1 : decide ((j : Int) < (ss.length : Int)) = true := by simp; omega
  have h2 : decide ((0 : Int) ≤ (j : Int)) = true := by simp
  have h3 : decide ((0 : Int) ≤ ((ss.length - 1 - j : Nat) : Int)) = true := by simp
  have h4 : decide (((ss.length - 1 - j : Nat) : Int) < (ss.length : Int)) = true := by simp; omega
  have h5 : decide ((j + 1) * 80 ≤ 140000000000000) = true := by simp; omega
  have h6 : decide (j + 1 ≤ 140000000000000) = true := by simp; omega
  rw [hlen, hb, hla, hlb] at ht
  simp only [Int.toNat_natCast, getD_enc h0, getD_enc hlt, fits28, h1, h2, h3, h4, h5, h6, Bool.and_self] at ht
  refine (congrArg T.run ht).trans ?_
  have hw : IntKind.i64.wrap ((j : Int) + 1) = ((j + 1 : Nat) : Int) := by rw [wrap64 (by omega) (by omega)]; simp
  simp only [st3x]
  have e1 : ss.take (j + 1) = ss.take j ++ [ss.getD j (fun _ => 0)] := take_succ' h0
  have e2 : ss.reverse.take (j + 1) = ss.reverse.take j ++ [ss.getD (ss.length - 1 - j) (fun _ => 0)] := by rw [take_succ' (d := fun _ => 0) (by simpa using h0), rev_get h0]
  rw [e1, e2, hw, List.map_append, List.map_append]
  generalize ss.getD j (fun _ => 0) = x
  generalize ss.getD (ss.length - 1 - j) (fun _ => 0) = y
  rfl
theorem out3 (ss : List (Nat → Int)) : (obsK X3 (fun _ => none) 53 (sub b3 P3) P3 (frm (st3 ss ss.length)) [.tail, .tail] [0,3,4,5]).run = .ok (.exit 0, (st3 ss ss.length).map (·.2), [.tail, .tail]) := by
  have ht := t3o (ss.map encS) ((ss.take ss.length).map encS) ((ss.reverse.take ss.length).map encS) (ss.length : Int)
  have h1 : decide ((ss.length : Int) < ((ss.map encS).length : Int)) = false := by simp
  rw [h1] at ht
  exact (congrArg T.run ht).trans rfl

/-! ## the plain law -/
theorem wrap_congr {m n : Int} (h : m % (2 ^ 64 : Int) = n % (2 ^ 64 : Int)) : IntKind.i64.wrap m = IntKind.i64.wrap n := by
  have e1 : IntKind.i64.bits = 64 := rfl
  unfold IntKind.wrap
  simp only [e1, h]
theorem wrap_emod (n : Int) : IntKind.i64.wrap n % (2 ^ 64 : Int) = n % (2 ^ 64 : Int) := by
  have e1 : IntKind.i64.bits = 64 := rfl
  have e2 : IntKind.i64.signed = true := rfl
  unfold IntKind.wrap
  simp only [e1, e2]
  split
  · rw [Int.sub_emod, Int.emod_self, Int.sub_zero, Int.emod_emod_of_dvd _ (Int.dvd_refl _), Int.emod_emod_of_dvd _ (Int.dvd_refl _)]
  · exact Int.emod_emod_of_dvd _ (Int.dvd_refl _)
theorem wrap_add (a b : Int) : IntKind.i64.wrap (IntKind.i64.wrap a + b) = IntKind.i64.wrap (a + b) := by
  apply wrap_congr
  rw [Int.add_emod, wrap_emod, ← Int.add_emod]
def sumN (ts : List (Nat → Int)) (k : Nat) : Nat → Int
  | 0 => 0
  | j + 1 => sumN ts k j + (ts.getD j (fun _ => 0)) k
theorem accN_sum (ts : List (Nat → Int)) {k : Nat} (hk : k ≠ 9) : ∀ j, accN ts j k = IntKind.i64.wrap (sumN ts k j)
  | 0 => by simp only [accN, sumN]; exact (wrap64 (by omega) (by omega)).symm
  | j + 1 => by simp only [accN, sumN, stepS, if_neg hk]; rw [accN_sum ts hk j, wrap_add]
theorem sumN_take (ts : List (Nat → Int)) (k : Nat) : ∀ j, j ≤ ts.length → sumN ts k j = ((ts.take j).map (· k)).sum
  | 0, _ => by simp [sumN]
  | j + 1, h => by
    simp only [sumN]
    rw [sumN_take ts k j (by omega), take_succ' (d := fun _ => 0) (show j < ts.length by omega), List.map_append, List.sum_append]
    simp
theorem sumN_all (ts : List (Nat → Int)) (k : Nat) : sumN ts k ts.length = (ts.map (· k)).sum := by
  rw [sumN_take ts k ts.length (Nat.le_refl _), List.take_length]
theorem sum_rev (l : List Int) : l.reverse.sum = l.sum := by
  induction l with
  | nil => rfl
  | cons x l ih => rw [List.reverse_cons, List.sum_append, ih]; simp; omega
theorem max_all (ts : List (Nat → Int)) : ∀ j, 0 < j → j ≤ ts.length → (∀ i, i < j → (ts.getD i (fun _ => 0)) 9 ≤ accN ts j 9) ∧ ∃ i, i < j ∧ (ts.getD i (fun _ => 0)) 9 = accN ts j 9
  | 0, h, _ => by omega
  | j + 1, _, hl => by
    rcases Nat.eq_zero_or_pos j with rfl | h0
    · refine ⟨fun i hi => ?_, 0, by omega, by simp [accN, stepS]⟩
      obtain rfl : i = 0 := by omega
      simp [accN, stepS]
    · obtain ⟨h1, i0, h2, h3⟩ := max_all ts j h0 (by omega)
      have hj : (j == 0) = false := by simp; omega
      have e : accN ts (j + 1) 9 = if (ts.getD j (fun _ => 0)) 9 > accN ts j 9 then (ts.getD j (fun _ => 0)) 9 else accN ts j 9 := by simp only [accN, stepS, hj]; simp
      rw [e]
      split
      · rename_i hgt
        refine ⟨fun i hi => ?_, j, by omega, rfl⟩
        rcases Nat.lt_or_ge i j with h | h
        · have := h1 i h; omega
        · obtain rfl : i = j := by omega
          exact Int.le_refl _
      · rename_i hgt
        refine ⟨fun i hi => ?_, i0, by omega, h3⟩
        rcases Nat.lt_or_ge i j with h | h
        · exact h1 i h
        · obtain rfl : i = j := by omega
          omega
theorem accN_rev (ts : List (Nat → Int)) (k : Nat) : accN ts.reverse ts.length k = accN ts ts.length k := by
  by_cases hk : k = 9
  · subst hk
    rcases Nat.eq_zero_or_pos ts.length with h0 | h0
    · rw [h0]; rfl
    · obtain ⟨h1, i1, h2, h3⟩ := max_all ts ts.length h0 (Nat.le_refl _)
      obtain ⟨g1, i2, g2, g3⟩ := max_all ts.reverse ts.length h0 (by simp)
      have a := h1 (ts.length - 1 - i2) (by omega)
      rw [← rev_get g2, g3] at a
      have b := g1 (ts.length - 1 - i1) (by omega)
      rw [rev_get (by omega), show ts.length - 1 - (ts.length - 1 - i1) = i1 by omega, h3] at b
      omega
  · rw [accN_sum _ hk, accN_sum _ hk]
    congr 1
    have := sumN_all ts.reverse k
    rw [List.length_reverse] at this
    rw [this, sumN_all, List.map_reverse, sum_rev]
/-! ## the law's loop -/
theorem beqF {i j : Nat} (h : ¬ i = j) : Nat.beq i j = false := by
  cases hb : Nat.beq i j with
  | false => rfl
  | true => exact absurd (Nat.eq_of_beq_eq_true hb) h
def kap (a b c : Nat) : Nat → Nat := fun i => if i = 0 then a else if i = 1 then b else i + c
theorem wk3 {ss : List (Nat → Int)} {j a b c : Nat} {h : H} (hc : h.length = c + 2) (ha : h[a]? = some .tail) (hb : h[b]? = some .tail) (hab : a ≠ b) : Wk E0 53 [] (frm (st3x a b ss j)) h (frm (st3 ss j)) [.tail, .tail] := by
  refine Wk.ren noG0 (κ := kap a b c) ⟨fun i hi => by simp at hi, fun i hi => by simp, fun i hi => ?_, fun i x hx => ?_, fun i j x y hx hy _ _ hij => ?_, fun i => ?_⟩
  · simp at hi; simp only [kap]; rw [if_neg (by omega), if_neg (by omega)]; omega
  · match i, hx with
    | 0, hx => simp at hx; subst hx; exact ⟨nofun, .tail, by simpa [kap] using ha, LeB.refl _⟩
    | 1, hx => simp at hx; subst hx; exact ⟨nofun, .tail, by simpa [kap] using hb, LeB.refl _⟩
    | n + 2, hx => simp at hx
  · have hi := lt_of_getl hx
    have hj := lt_of_getl hy
    simp at hi hj
    simp only [kap] at hij
    split at hij <;> split at hij <;> (try split at hij) <;> (try split at hij) <;> omega
  · by_cases h0 : i = 0
    · subst h0; exact .inr ⟨by simp only [st3, st3x, look, ren, rens_enc]; exact Le.refl _, by simp [st3x, look]⟩
    · by_cases h3 : i = 3
      · subst h3; exact .inr ⟨by simp only [st3, st3x, look, ren, rens_enc, kap]; exact Le.refl _, by simp [st3x, look]⟩
      · by_cases h4 : i = 4
        · subst h4; exact .inr ⟨by simp only [st3, st3x, look, ren, rens_enc, kap]; exact Le.refl _, by simp [st3x, look]⟩
        · by_cases h5 : i = 5
          · subst h5; exact .inr ⟨by simp only [st3, st3x, look, ren]; exact Le.refl _, by simp [st3x, look]⟩
          · refine .inl ?_
            have n0 : Nat.beq i 0 = false := beqF h0
            have n3 : Nat.beq i 3 = false := beqF h3
            have n4 : Nat.beq i 4 = false := beqF h4
            have n5 : Nat.beq i 5 = false := beqF h5
            simp only [st3, look, n0, n3, n4, n5]
theorem loop3 (known4 : ∀ h, Con E0 4 [] h (.bool true) h) (ss : List (Nat → Int)) (hl : ss.length ≤ 100) : ∀ (d j : Nat), j + d = ss.length → TRounds E0 53 [] (sub b3 P3) (frm (st3 ss j)) [.tail, .tail] (.exit 0) (frm (st3 ss ss.length)) [.tail, .tail]
  | 0, j, h => by
    obtain rfl : j = ss.length := by omega
    exact .done (Tri.of_obs (X := X3) g0 (call3_ok known4) KOK.none rfl (out3 ss)) nofun
  | d + 1, j, h => .more (.wk .refl (Tri.of_obs (X := X3) g0 (call3_ok known4) KOK.none rfl (round3 ss j (by omega) hl)) (wk3 (c := 4) rfl rfl rfl (by omega))) (loop3 known4 ss hl d (j + 1) (by omega))
theorem loop3n (known4 : ∀ h, Con E0 4 [] h (.bool true) h) (ss : List (Nat → Int)) (h0 : 0 < ss.length) (hl : ss.length ≤ 100) : TRounds E0 53 [] (sub b3 P3) (frm (st3n ss)) [] (.exit 0) (frm (st3 ss ss.length)) [.tail, .tail] :=
  .more (.wk .refl (Tri.of_obs (X := X3) g0 (call3_ok known4) KOK.none rfl (round3n ss h0 hl)) (wk3 (c := 2) rfl rfl rfl (by omega))) (loop3 known4 ss hl (ss.length - 1) 1 (by omega))
theorem out3n : (obsK X3 (fun _ => none) 53 (sub b3 P3) P3 (frm (st3n [])) [] [0,3,4,5]).run = .ok (.exit 0, (st3n []).map (·.2), []) := (congrArg T.run (t3n [] 0)).trans rfl
theorem kok3 (known4 : ∀ h, Con E0 4 [] h (.bool true) h) : KOK E0 53 [] b3 K3 := by
  intro p k hk τ h x τ' h' hr
  simp only [K3] at hk
  split at hk
  · rename_i hp0
    subst hp0
    cases hk
    dsimp only at hr
    split at hr
    · rename_i l i e0 e3 e4 e5
      obtain ⟨hc, hr2⟩ := brf_ok hr
      simp only [Bool.and_eq_true, decide_eq_true_eq] at hc
      obtain ⟨⟨hS, hl⟩, hi⟩ := hc
      subst hi
      obtain ⟨ss, _, rfl⟩ := allS hS
      have hlen : (ss.map encS).length = ss.length := by simp
      rw [hlen] at hl
      have hin : Wk E0 53 [] τ [] (frm (st3n ss)) [] := Wk.fewer (fun q hq => by
        simp only [st3n, List.mem_cons, List.not_mem_nil, or_false] at hq
        rcases hq with rfl | rfl | rfl | rfl
        · exact e0
        · exact e3
        · exact e4
        · exact e5)
      rcases br_ok hr2 with ⟨g1, g2⟩ | ⟨g1, g2⟩
      · cases g2
        obtain rfl : ss = [] := by simpa using g1
        refine .wk hin (Tri.block (id := 0) (Tri.loop (.done (Tri.of_obs (X := X3) g0 (call3_ok known4) KOK.none rfl out3n) nofun))) (Wk.fewer fun q hq => ?_)
        simp only [List.mem_cons, List.not_mem_nil, or_false] at hq
        rcases hq with rfl | rfl | rfl <;> rfl
      · cases g2
        have h0 : 0 < ss.length := by
          rcases Nat.eq_zero_or_pos ss.length with h | h
          · rw [List.eq_nil_of_length_eq_zero h] at g1; cases g1
          · exact h
        refine .wk hin (Tri.block (id := 0) (Tri.loop (loop3n known4 ss h0 hl))) (Wk.fewer fun q hq => ?_)
        have q1 : ss.take ss.length = ss := List.take_length
        have q2 : ss.reverse.take ss.length = ss.reverse := by rw [← List.length_reverse]; exact List.take_length
        simp only [List.mem_cons, List.not_mem_nil, or_false] at hq
        rcases hq with rfl | rfl | rfl
        · rfl
        · simp only [st3, look, q1]
        · simp only [st3, look, q2, List.map_reverse]
    · cases hr
  · cases hk
theorem law3 (ss : List (Nat → Int)) : ∃ h', (runF X3 K3 Tryz.f3 b3 [.lst 10 (ss.map encS) .open_] []).run = .ok (.bool true, h') := by
  have ht := t3w (ss.map encS)
  have hS : (ss.map encS).all isS = true := by rw [List.all_map]; exact List.all_eq_true.2 fun _ _ => rfl
  have hSr : (ss.map encS).reverse.all isS = true := by rw [List.all_reverse]; exact hS
  by_cases h100 : ss.length ≤ 100
  · have h1 : decide ((100 : Int) < ((ss.map encS).length : Int)) = false := by simp; omega
    have h2 : decide ((ss.map encS).length ≤ 100) = true := by simpa using h100
    have h3 : decide ((ss.map encS).length < 1000000000000000) = true := by simp; omega
    have h4 : decide ((ss.map encS).reverse.length < 1000000000000000) = true := by simp; omega
    have h5 : decide ((0 : Int) = 0) = true := rfl
    rw [hS, hSr, h1, h2, h3, h4, h5] at ht
    cases he : (ss.map encS).isEmpty with
    | true =>
      obtain rfl : ss = [] := by simpa using he
      rw [ht]
      exact ⟨_, rfl⟩
    | false =>
      rw [he] at ht
      have hr : ∀ k, accN (List.map decS (ss.map encS).reverse) (ss.map encS).reverse.length k = accN (List.map decS (ss.map encS)) (ss.map encS).length k := fun k => by
        have := accN_rev ((ss.map encS).map decS) k
        rw [← List.map_reverse] at this
        simpa using this
      rw [ht]
      simp only [T.run, Bool.and_self, decS, AV.cells, AV.toI, hr, beq_self_eq_true, List.getD_cons_zero, List.getD_cons_succ]
      exact ⟨_, rfl⟩
  · have h1 : decide ((100 : Int) < ((ss.map encS).length : Int)) = true := by simp; omega
    rw [ht, h1]
    exact ⟨_, rfl⟩

/-! ## the fixed calls, and the row -/
noncomputable def EK : Env := { E0 with C := C0, M := 10000, L := fun f _ => [37, 42, 69, 18, 98, 103].contains f, B := fun f => f == 148 }
theorem known : val (acall EK 500 4 [] []) = .ok (.bool true) := by kernel_rfl
theorem gK : Ground EK := ⟨fun t h => by simpa [EK, E0] using h, cok0 rfl rfl, fun f h => by simp only [EK, beq_iff_eq] at h; subst h; exact backOK, by kernel_rfl⟩
theorem known4 (h : H) : Con E0 4 [] h (.bool true) h := by
  obtain ⟨h', hh⟩ := val_ok known
  exact Con.base noG0 (Con.env (E := EK) (E' := E0) rfl rfl (Con.of_acall gK hh)) rfl rfl h
theorem statAdds_con (ss : List (Nat → Int)) : ∃ h', Con E0 3 [.lst 10 (ss.map encS) .open_] [] (.bool true) h' := by
  obtain ⟨h', hr⟩ := law3 ss
  exact ⟨h', Con.of_run (X := X3) (f := 3) g0 (call3_ok known4) (fn := Tryz.f3) Tryz.func3 (c := b3) rfl rfl (args := [.lst 10 (ss.map encS) .open_]) (h := []) (kok3 known4) hr⟩
theorem reach_of {P : Program} {H : Type} {ts : List TypeId} {ds : List (DataW H)} (h : (DataW.weightsEach P ts ds).all (· ≤ reachBytes) = true) {j : Nat} {t : TypeId} {d : DataW H} (ht : ts[j]? = some t) (hd : ds[j]? = some d) : ∀ n ∈ d.weights P t, n ≤ reachBytes := by
  intro n hn
  have := List.all_eq_true.1 h _ (DataW.weights_mem_each ht hd n hn)
  simpa using this
theorem okT22 : okT Tryz.prog 9 22 = true := by kernel_rfl
def ints (P : Program) : List Field → Nat → Bool
  | [], _ => true
  | f :: fs, off => f.offset == off && P.cellsOf f.type == 1 && (match P.underlying f.type with | some (.int .i64) => true | _ => false) && ints P fs (off + 1)
theorem shp_ints {P : Program} {n : Nat} {x : List AV} : ∀ (fs : List Field) (off : Nat), ints P fs off = true → (∀ f, f ∈ fs → Shp P (n + 1) f.type ((x.drop f.offset).take (P.cellsOf f.type))) → ∀ i, i < fs.length → ∃ m, x[off + i]? = some (.int .i64 m)
  | [], off, _, _, i, hi => by simp at hi
  | f :: fs, off, hk, hf, i, hi => by
    simp only [ints, Bool.and_eq_true, beq_iff_eq] at hk
    obtain ⟨⟨⟨h1, h2⟩, h3⟩, h4⟩ := hk
    cases i with
    | zero =>
      have := hf f (List.mem_cons_self ..)
      rw [h1, h2] at this
      simp only [Shp] at this
      split at h3
      · rename_i hu
        rw [hu] at this
        obtain ⟨m, hm, _⟩ := this
        refine ⟨m, ?_⟩
        have h5 : ((x.drop off).take 1)[0]? = some (.int .i64 m) := by rw [hm]; rfl
        rw [List.getElem?_take, if_pos (by omega), List.getElem?_drop] at h5
        exact h5
      · cases h3
    | succ i =>
      have := shp_ints fs (off + 1) h4 (fun g hg => hf g (List.mem_cons_of_mem _ hg)) i (by simpa using hi)
      rw [show off + 1 + i = off + (i + 1) by omega] at this
      exact this
theorem shp_struct {P : Program} {n : Nat} {t : TypeId} {l : List AV} {fs : Array Field} (hu : P.underlying t = some (.struct fs)) (h : Shp P (n + 1) t l) : l.length = P.cellsOf t ∧ ∀ f, f ∈ fs.toList → Shp P n f.type ((l.drop f.offset).take (P.cellsOf f.type)) := by
  simp only [Shp, hu] at h; exact h
theorem shp_slice {P : Program} {n : Nat} {t e : TypeId} {l : List AV} (hu : P.underlying t = some (.slice e)) (h : Shp P (n + 1) t l) : ∃ xs : List (List AV), l = [.lst (P.cellsOf e) (xs.map (rowAV P e)) .open_] ∧ xs.length * P.bytesOf e ≤ 140737488351232 ∧ ∀ x, x ∈ xs → Shp P n e x := by
  simp only [Shp, hu] at h; exact h
noncomputable def fields28 : List Field := match Tryz.prog.underlying 28 with
  | some (.struct fs) => fs.toList
  | _ => []
set_option maxRecDepth 100000 in
theorem shp28 {x : List AV} (h : Shp Tryz.prog 8 28 x) : ∃ s : Nat → Int, rowAV Tryz.prog 28 x = encS s := by
  have ha : aggB' Tryz.prog 28 = true := by kernel_rfl
  obtain ⟨fs, hu⟩ : ∃ fs, Tryz.prog.underlying 28 = some (.struct fs) := ⟨_, Tryz.underlying28⟩
  have hfs : fields28 = fs.toList := by unfold fields28; rw [hu]
  have hint : ints Tryz.prog fields28 0 = true := by kernel_rfl
  have hlen : fields28.length = 10 := by kernel_rfl
  have hc : Tryz.prog.cellsOf 28 = 10 := by kernel_rfl
  obtain ⟨hl, hf⟩ := shp_struct (n := 7) hu h
  rw [← hfs] at hf
  have hi := shp_ints (n := 6) fields28 0 hint hf
  rw [hlen] at hi
  have hl10 : x.length = 10 := hl.trans hc
  unfold rowAV
  rw [ha]
  clear hf hl hu
  match x, hl10 with
  | [a0, a1, a2, a3, a4, a5, a6, a7, a8, a9], _ =>
    obtain ⟨m0, e0⟩ := hi 0 (by omega)
    obtain ⟨m1, e1⟩ := hi 1 (by omega)
    obtain ⟨m2, e2⟩ := hi 2 (by omega)
    obtain ⟨m3, e3⟩ := hi 3 (by omega)
    obtain ⟨m4, e4⟩ := hi 4 (by omega)
    obtain ⟨m5, e5⟩ := hi 5 (by omega)
    obtain ⟨m6, e6⟩ := hi 6 (by omega)
    obtain ⟨m7, e7⟩ := hi 7 (by omega)
    obtain ⟨m8, e8⟩ := hi 8 (by omega)
    obtain ⟨m9, e9⟩ := hi 9 (by omega)
    simp at e0 e1 e2 e3 e4 e5 e6 e7 e8 e9
    subst e0 e1 e2 e3 e4 e5 e6 e7 e8 e9
    exact ⟨fun k => [m0, m1, m2, m3, m4, m5, m6, m7, m8, m9].getD k 0, rfl⟩
theorem rows_enc {Q : List AV → Prop} {f : List AV → AV} (h : ∀ x, Q x → ∃ s, f x = encS s) : ∀ xs : List (List AV), (∀ x, x ∈ xs → Q x) → ∃ ss : List (Nat → Int), xs.map f = ss.map encS
  | [], _ => ⟨[], rfl⟩
  | x :: xs, hx => by
    obtain ⟨ss, h1⟩ := rows_enc h xs (fun y hy => hx y (List.mem_cons_of_mem _ hy))
    obtain ⟨s, h2⟩ := h x (hx x (List.mem_cons_self ..))
    exact ⟨s :: ss, by simp only [List.map_cons, h1, h2]⟩
set_option maxRecDepth 100000 in
theorem statAdds {H : Type} {enc : TypeId × Value → H} {b : Nat} {d : DataW H} {ps : List MemPlace} (W : World) (hX : laidMetH Tryz.prog Rows.statAddsRow.laid W) (v : Value) (hv : Value.okWide Tryz.prog W .any b 22 v) (h : DataW.Trod enc Tryz.prog W 0 (fun _ => true) true 22 v d ps) (hw : ∀ n ∈ d.weights Tryz.prog 22, n ≤ reachBytes) :
    Calls Tryz.prog 3 #[v] W fun e w' => e = .returned (.bool true) ∧ Below W.heap.size W w' := by
  obtain ⟨a, len, cap, rfl⟩ := okWide_slice Tryz.underlying22 hv
  obtain ⟨fuel, hf⟩ := h
  obtain ⟨l, hc, hs, hl⟩ := open_ok (F := F0) (ρ := rho0) (w := W) (fun B off hF => by
    rcases hF with ⟨b, k, y, h1, _⟩ | h1
    · cases h1
    · exact h1) 9 22 okT22 fuel _ _ hf hw
  obtain ⟨xs, rfl, _, hx⟩ := shp_slice (n := 8) Tryz.underlying22 hs
  have hce : Tryz.prog.cellsOf 28 = 10 := by kernel_rfl
  obtain ⟨ss, hss⟩ := rows_enc (fun x hx => shp28 hx) xs hx
  rw [hss, hce] at hc
  obtain ⟨h', hcon⟩ := statAdds_con ss
  refine Con.bool (E := E0) hcon (vs := #[.slice a len cap]) hc ?_
  intro i cs h
  simp only [E0] at h
  split at h
  · rename_i hi
    subst hi
    cases h
    exact globH_of (P := Tryz.prog) (laid := Rows.statAddsRow.laid) hX (by kernel_rfl) (List.mem_of_getElem? (i := 1) (a := ("hornbook/ins.forms", Rows.laid_hornbook_ins_forms)) rfl) formsG formsT formsTree
  · cases h
end Go.Proofs.YtijlgjijhkokbaaGreatDoor.AM
