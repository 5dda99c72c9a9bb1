/- KlassSame: the program's and the document's comparison of two classes are one and the same, and true of a class and itself; each function by the symbolic machine's tree of it, loops by induction. -/
import Derived.Test.YtijfpeonjnacgaaGreatDoorB0
import Derived.Test.YtijfpeonjnacgaaGreatDoorBSame
import Derived.Test.YtijfpeonjnacgaaGreatDoorRows
import Derived.LaidSub
import Derived.WideShapes
namespace Go.Proofs.YtijfpeonjnacgaaGreatDoor.AM
open Go Go.Proofs Go.RowKit Go.WideShapes
set_option linter.unusedVariables false
set_option linter.unusedSimpArgs false
noncomputable def g8 (args : List AV) : Bool := someB E0 8 args
noncomputable def cl8 : Cl := ⟨8, okE1 tyK, fun args => .bool (g8 args)⟩
noncomputable def cs3 : List Cl := [clK 9, clEE 10 tyK, clEE 11 tyK]
noncomputable def E1 : Env := { E0 with C := lightC cs3, LC := fun f => [9,10,11].contains f }
noncomputable def X3 : SX := { E := E1, f := 3, con := fun _ => false, split := fun d => [8,12,21,26,31].contains d, call := callsBy (cl8 :: cs3), lit := fun f => [9,10,11].contains f }
theorem p3 (a0 a1 : ByteArray) (a2 : List tyC.I) (a3 : List tyF.I) (a4 : List tyM.I) (b0 b1 : ByteArray) (b2 : List tyC.I) (b3 : List tyF.I) (b4 : List tyM.I) : runV X3 (fun _ => none) Tryz.f3 (bodyOf Tryz.f3) [.agg [.str a0, .str a1, encL tyC a2, encL tyF a3, encL tyM a4], .agg [.str b0, .str b1, encL tyC b2, encL tyF b3, encL tyM b4]] =
  (T.br (askQ cl8.2
  [AV.agg
      [AV.str a0, AV.str a1, AV.lst (5 : Nat) (List.map tyC.elem a2) Tl.open_,
        AV.lst (2 : Nat) (List.map tyF.elem a3) Tl.open_, AV.lst (5 : Nat) (List.map tyM.elem a4) Tl.open_]])
    (T.br (!g8
    [AV.agg
        [AV.str a0, AV.str a1, AV.lst (5 : Nat) (List.map tyC.elem a2) Tl.open_,
          AV.lst (2 : Nat) (List.map tyF.elem a3) Tl.open_, AV.lst (5 : Nat) (List.map tyM.elem a4) Tl.open_]])
      (T.br true
        (T.br (askQ (clK (9 : FuncId)).2 [])
          (T.br (askL E1 (9 : Nat) [] (AV.bool true))
            (T.leaf (AV.bool true))
            T.fail)
          T.fail)
        (T.br (askQ (clEE (10 : FuncId) tyK).2
  [AV.agg
      [AV.str a0, AV.str a1, AV.lst (5 : Nat) (List.map tyC.elem a2) Tl.open_,
        AV.lst (2 : Nat) (List.map tyF.elem a3) Tl.open_, AV.lst (5 : Nat) (List.map tyM.elem a4) Tl.open_],
    AV.agg
      [AV.str b0, AV.str b1, AV.lst (5 : Nat) (List.map tyC.elem b2) Tl.open_,
        AV.lst (2 : Nat) (List.map tyF.elem b3) Tl.open_, AV.lst (5 : Nat) (List.map tyM.elem b4) Tl.open_]])
          (T.br (askL E1 (10 : Nat)
  [AV.agg
      [AV.str a0, AV.str a1, AV.lst (5 : Nat) (List.map tyC.elem a2) Tl.open_,
        AV.lst (2 : Nat) (List.map tyF.elem a3) Tl.open_, AV.lst (5 : Nat) (List.map tyM.elem a4) Tl.open_],
    AV.agg
      [AV.str b0, AV.str b1, AV.lst (5 : Nat) (List.map tyC.elem b2) Tl.open_,
        AV.lst (2 : Nat) (List.map tyF.elem b3) Tl.open_, AV.lst (5 : Nat) (List.map tyM.elem b4) Tl.open_]]
  (AV.bool
    (ask
      (AV.agg
          [AV.str a0, AV.str a1, AV.lst (5 : Nat) (List.map tyC.elem a2) Tl.open_,
            AV.lst (2 : Nat) (List.map tyF.elem a3) Tl.open_, AV.lst (5 : Nat) (List.map tyM.elem a4) Tl.open_] =
        AV.agg
          [AV.str b0, AV.str b1, AV.lst (5 : Nat) (List.map tyC.elem b2) Tl.open_,
            AV.lst (2 : Nat) (List.map tyF.elem b3) Tl.open_, AV.lst (5 : Nat) (List.map tyM.elem b4) Tl.open_]))))
            (T.br (askQ (clEE (11 : FuncId) tyK).2
  [AV.agg
      [AV.str a0, AV.str a1, AV.lst (5 : Nat) (List.map tyC.elem a2) Tl.open_,
        AV.lst (2 : Nat) (List.map tyF.elem a3) Tl.open_, AV.lst (5 : Nat) (List.map tyM.elem a4) Tl.open_],
    AV.agg
      [AV.str b0, AV.str b1, AV.lst (5 : Nat) (List.map tyC.elem b2) Tl.open_,
        AV.lst (2 : Nat) (List.map tyF.elem b3) Tl.open_, AV.lst (5 : Nat) (List.map tyM.elem b4) Tl.open_]])
              (T.br (askL E1 (11 : Nat)
  [AV.agg
      [AV.str a0, AV.str a1, AV.lst (5 : Nat) (List.map tyC.elem a2) Tl.open_,
        AV.lst (2 : Nat) (List.map tyF.elem a3) Tl.open_, AV.lst (5 : Nat) (List.map tyM.elem a4) Tl.open_],
    AV.agg
      [AV.str b0, AV.str b1, AV.lst (5 : Nat) (List.map tyC.elem b2) Tl.open_,
        AV.lst (2 : Nat) (List.map tyF.elem b3) Tl.open_, AV.lst (5 : Nat) (List.map tyM.elem b4) Tl.open_]]
  (AV.bool
    (ask
      (AV.agg
          [AV.str a0, AV.str a1, AV.lst (5 : Nat) (List.map tyC.elem a2) Tl.open_,
            AV.lst (2 : Nat) (List.map tyF.elem a3) Tl.open_, AV.lst (5 : Nat) (List.map tyM.elem a4) Tl.open_] =
        AV.agg
          [AV.str b0, AV.str b1, AV.lst (5 : Nat) (List.map tyC.elem b2) Tl.open_,
            AV.lst (2 : Nat) (List.map tyF.elem b3) Tl.open_, AV.lst (5 : Nat) (List.map tyM.elem b4) Tl.open_]))))
                (T.br (ask
    (AV.agg
        [AV.str a0, AV.str a1, AV.lst (5 : Nat) (List.map tyC.elem a2) Tl.open_,
          AV.lst (2 : Nat) (List.map tyF.elem a3) Tl.open_, AV.lst (5 : Nat) (List.map tyM.elem a4) Tl.open_] =
      AV.agg
        [AV.str b0, AV.str b1, AV.lst (5 : Nat) (List.map tyC.elem b2) Tl.open_,
          AV.lst (2 : Nat) (List.map tyF.elem b3) Tl.open_, AV.lst (5 : Nat) (List.map tyM.elem b4) Tl.open_]) ==
  ask
    (AV.agg
        [AV.str a0, AV.str a1, AV.lst (5 : Nat) (List.map tyC.elem a2) Tl.open_,
          AV.lst (2 : Nat) (List.map tyF.elem a3) Tl.open_, AV.lst (5 : Nat) (List.map tyM.elem a4) Tl.open_] =
      AV.agg
        [AV.str b0, AV.str b1, AV.lst (5 : Nat) (List.map tyC.elem b2) Tl.open_,
          AV.lst (2 : Nat) (List.map tyF.elem b3) Tl.open_, AV.lst (5 : Nat) (List.map tyM.elem b4) Tl.open_]))
                  (T.br (askQ (clEE (10 : FuncId) tyK).2
  [AV.agg
      [AV.str a0, AV.str a1, AV.lst (5 : Nat) (List.map tyC.elem a2) Tl.open_,
        AV.lst (2 : Nat) (List.map tyF.elem a3) Tl.open_, AV.lst (5 : Nat) (List.map tyM.elem a4) Tl.open_],
    AV.agg
      [AV.str a0, AV.str a1, AV.lst (5 : Nat) (List.map tyC.elem a2) Tl.open_,
        AV.lst (2 : Nat) (List.map tyF.elem a3) Tl.open_, AV.lst (5 : Nat) (List.map tyM.elem a4) Tl.open_]])
                    (T.br (askL E1 (10 : Nat)
  [AV.agg
      [AV.str a0, AV.str a1, AV.lst (5 : Nat) (List.map tyC.elem a2) Tl.open_,
        AV.lst (2 : Nat) (List.map tyF.elem a3) Tl.open_, AV.lst (5 : Nat) (List.map tyM.elem a4) Tl.open_],
    AV.agg
      [AV.str a0, AV.str a1, AV.lst (5 : Nat) (List.map tyC.elem a2) Tl.open_,
        AV.lst (2 : Nat) (List.map tyF.elem a3) Tl.open_, AV.lst (5 : Nat) (List.map tyM.elem a4) Tl.open_]]
  (AV.bool
    (ask
      (AV.agg
          [AV.str a0, AV.str a1, AV.lst (5 : Nat) (List.map tyC.elem a2) Tl.open_,
            AV.lst (2 : Nat) (List.map tyF.elem a3) Tl.open_, AV.lst (5 : Nat) (List.map tyM.elem a4) Tl.open_] =
        AV.agg
          [AV.str a0, AV.str a1, AV.lst (5 : Nat) (List.map tyC.elem a2) Tl.open_,
            AV.lst (2 : Nat) (List.map tyF.elem a3) Tl.open_, AV.lst (5 : Nat) (List.map tyM.elem a4) Tl.open_]))))
                      (T.br (ask
  (AV.agg
      [AV.str a0, AV.str a1, AV.lst (5 : Nat) (List.map tyC.elem a2) Tl.open_,
        AV.lst (2 : Nat) (List.map tyF.elem a3) Tl.open_, AV.lst (5 : Nat) (List.map tyM.elem a4) Tl.open_] =
    AV.agg
      [AV.str a0, AV.str a1, AV.lst (5 : Nat) (List.map tyC.elem a2) Tl.open_,
        AV.lst (2 : Nat) (List.map tyF.elem a3) Tl.open_, AV.lst (5 : Nat) (List.map tyM.elem a4) Tl.open_]))
                        (T.br (askQ (clEE (10 : FuncId) tyK).2
  [AV.agg
      [AV.str b0, AV.str b1, AV.lst (5 : Nat) (List.map tyC.elem b2) Tl.open_,
        AV.lst (2 : Nat) (List.map tyF.elem b3) Tl.open_, AV.lst (5 : Nat) (List.map tyM.elem b4) Tl.open_],
    AV.agg
      [AV.str b0, AV.str b1, AV.lst (5 : Nat) (List.map tyC.elem b2) Tl.open_,
        AV.lst (2 : Nat) (List.map tyF.elem b3) Tl.open_, AV.lst (5 : Nat) (List.map tyM.elem b4) Tl.open_]])
                          (T.br (askL E1 (10 : Nat)
  [AV.agg
      [AV.str b0, AV.str b1, AV.lst (5 : Nat) (List.map tyC.elem b2) Tl.open_,
        AV.lst (2 : Nat) (List.map tyF.elem b3) Tl.open_, AV.lst (5 : Nat) (List.map tyM.elem b4) Tl.open_],
    AV.agg
      [AV.str b0, AV.str b1, AV.lst (5 : Nat) (List.map tyC.elem b2) Tl.open_,
        AV.lst (2 : Nat) (List.map tyF.elem b3) Tl.open_, AV.lst (5 : Nat) (List.map tyM.elem b4) Tl.open_]]
  (AV.bool
    (ask
      (AV.agg
          [AV.str b0, AV.str b1, AV.lst (5 : Nat) (List.map tyC.elem b2) Tl.open_,
            AV.lst (2 : Nat) (List.map tyF.elem b3) Tl.open_, AV.lst (5 : Nat) (List.map tyM.elem b4) Tl.open_] =
        AV.agg
          [AV.str b0, AV.str b1, AV.lst (5 : Nat) (List.map tyC.elem b2) Tl.open_,
            AV.lst (2 : Nat) (List.map tyF.elem b3) Tl.open_, AV.lst (5 : Nat) (List.map tyM.elem b4) Tl.open_]))))
                            (T.br (ask
  (AV.agg
      [AV.str b0, AV.str b1, AV.lst (5 : Nat) (List.map tyC.elem b2) Tl.open_,
        AV.lst (2 : Nat) (List.map tyF.elem b3) Tl.open_, AV.lst (5 : Nat) (List.map tyM.elem b4) Tl.open_] =
    AV.agg
      [AV.str b0, AV.str b1, AV.lst (5 : Nat) (List.map tyC.elem b2) Tl.open_,
        AV.lst (2 : Nat) (List.map tyF.elem b3) Tl.open_, AV.lst (5 : Nat) (List.map tyM.elem b4) Tl.open_]))
                              (T.br (askQ (clK (9 : FuncId)).2 [])
                                (T.br (askL E1 (9 : Nat) [] (AV.bool true))
                                  (T.leaf (AV.bool true))
                                  T.fail)
                                T.fail)
                              (T.leaf (AV.bool false)))
                            T.fail)
                          T.fail)
                        (T.br false
                          (T.br (askQ (clK (9 : FuncId)).2 [])
                            (T.br (askL E1 (9 : Nat) [] (AV.bool true))
                              (T.leaf (AV.bool true))
                              T.fail)
                            T.fail)
                          (T.leaf (AV.bool false))))
                      T.fail)
                    T.fail)
                  (T.br false
                    (T.br (askQ (clEE (10 : FuncId) tyK).2
  [AV.agg
      [AV.str b0, AV.str b1, AV.lst (5 : Nat) (List.map tyC.elem b2) Tl.open_,
        AV.lst (2 : Nat) (List.map tyF.elem b3) Tl.open_, AV.lst (5 : Nat) (List.map tyM.elem b4) Tl.open_],
    AV.agg
      [AV.str b0, AV.str b1, AV.lst (5 : Nat) (List.map tyC.elem b2) Tl.open_,
        AV.lst (2 : Nat) (List.map tyF.elem b3) Tl.open_, AV.lst (5 : Nat) (List.map tyM.elem b4) Tl.open_]])
                      (T.br (askL E1 (10 : Nat)
  [AV.agg
      [AV.str b0, AV.str b1, AV.lst (5 : Nat) (List.map tyC.elem b2) Tl.open_,
        AV.lst (2 : Nat) (List.map tyF.elem b3) Tl.open_, AV.lst (5 : Nat) (List.map tyM.elem b4) Tl.open_],
    AV.agg
      [AV.str b0, AV.str b1, AV.lst (5 : Nat) (List.map tyC.elem b2) Tl.open_,
        AV.lst (2 : Nat) (List.map tyF.elem b3) Tl.open_, AV.lst (5 : Nat) (List.map tyM.elem b4) Tl.open_]]
  (AV.bool
    (ask
      (AV.agg
          [AV.str b0, AV.str b1, AV.lst (5 : Nat) (List.map tyC.elem b2) Tl.open_,
            AV.lst (2 : Nat) (List.map tyF.elem b3) Tl.open_, AV.lst (5 : Nat) (List.map tyM.elem b4) Tl.open_] =
        AV.agg
          [AV.str b0, AV.str b1, AV.lst (5 : Nat) (List.map tyC.elem b2) Tl.open_,
            AV.lst (2 : Nat) (List.map tyF.elem b3) Tl.open_, AV.lst (5 : Nat) (List.map tyM.elem b4) Tl.open_]))))
                        (T.br (ask
  (AV.agg
      [AV.str b0, AV.str b1, AV.lst (5 : Nat) (List.map tyC.elem b2) Tl.open_,
        AV.lst (2 : Nat) (List.map tyF.elem b3) Tl.open_, AV.lst (5 : Nat) (List.map tyM.elem b4) Tl.open_] =
    AV.agg
      [AV.str b0, AV.str b1, AV.lst (5 : Nat) (List.map tyC.elem b2) Tl.open_,
        AV.lst (2 : Nat) (List.map tyF.elem b3) Tl.open_, AV.lst (5 : Nat) (List.map tyM.elem b4) Tl.open_]))
                          (T.br (askQ (clK (9 : FuncId)).2 [])
                            (T.br (askL E1 (9 : Nat) [] (AV.bool true))
                              (T.leaf (AV.bool true))
                              T.fail)
                            T.fail)
                          (T.leaf (AV.bool false)))
                        T.fail)
                      T.fail)
                    (T.br false
                      (T.br (askQ (clK (9 : FuncId)).2 [])
                        (T.br (askL E1 (9 : Nat) [] (AV.bool true))
                          (T.leaf (AV.bool true))
                          T.fail)
                        T.fail)
                      (T.leaf (AV.bool false)))))
                T.fail)
              T.fail)
            T.fail)
          T.fail))
      (T.br (askQ cl8.2
  [AV.agg
      [AV.str b0, AV.str b1, AV.lst (5 : Nat) (List.map tyC.elem b2) Tl.open_,
        AV.lst (2 : Nat) (List.map tyF.elem b3) Tl.open_, AV.lst (5 : Nat) (List.map tyM.elem b4) Tl.open_]])
        (T.br (!g8
    [AV.agg
        [AV.str b0, AV.str b1, AV.lst (5 : Nat) (List.map tyC.elem b2) Tl.open_,
          AV.lst (2 : Nat) (List.map tyF.elem b3) Tl.open_, AV.lst (5 : Nat) (List.map tyM.elem b4) Tl.open_]])
          (T.br (askQ (clK (9 : FuncId)).2 [])
            (T.br (askL E1 (9 : Nat) [] (AV.bool true))
              (T.leaf (AV.bool true))
              T.fail)
            T.fail)
          (T.br (askQ (clEE (10 : FuncId) tyK).2
  [AV.agg
      [AV.str a0, AV.str a1, AV.lst (5 : Nat) (List.map tyC.elem a2) Tl.open_,
        AV.lst (2 : Nat) (List.map tyF.elem a3) Tl.open_, AV.lst (5 : Nat) (List.map tyM.elem a4) Tl.open_],
    AV.agg
      [AV.str b0, AV.str b1, AV.lst (5 : Nat) (List.map tyC.elem b2) Tl.open_,
        AV.lst (2 : Nat) (List.map tyF.elem b3) Tl.open_, AV.lst (5 : Nat) (List.map tyM.elem b4) Tl.open_]])
            (T.br (askL E1 (10 : Nat)
  [AV.agg
      [AV.str a0, AV.str a1, AV.lst (5 : Nat) (List.map tyC.elem a2) Tl.open_,
        AV.lst (2 : Nat) (List.map tyF.elem a3) Tl.open_, AV.lst (5 : Nat) (List.map tyM.elem a4) Tl.open_],
    AV.agg
      [AV.str b0, AV.str b1, AV.lst (5 : Nat) (List.map tyC.elem b2) Tl.open_,
        AV.lst (2 : Nat) (List.map tyF.elem b3) Tl.open_, AV.lst (5 : Nat) (List.map tyM.elem b4) Tl.open_]]
  (AV.bool
    (ask
      (AV.agg
          [AV.str a0, AV.str a1, AV.lst (5 : Nat) (List.map tyC.elem a2) Tl.open_,
            AV.lst (2 : Nat) (List.map tyF.elem a3) Tl.open_, AV.lst (5 : Nat) (List.map tyM.elem a4) Tl.open_] =
        AV.agg
          [AV.str b0, AV.str b1, AV.lst (5 : Nat) (List.map tyC.elem b2) Tl.open_,
            AV.lst (2 : Nat) (List.map tyF.elem b3) Tl.open_, AV.lst (5 : Nat) (List.map tyM.elem b4) Tl.open_]))))
              (T.br (askQ (clEE (11 : FuncId) tyK).2
  [AV.agg
      [AV.str a0, AV.str a1, AV.lst (5 : Nat) (List.map tyC.elem a2) Tl.open_,
        AV.lst (2 : Nat) (List.map tyF.elem a3) Tl.open_, AV.lst (5 : Nat) (List.map tyM.elem a4) Tl.open_],
    AV.agg
      [AV.str b0, AV.str b1, AV.lst (5 : Nat) (List.map tyC.elem b2) Tl.open_,
        AV.lst (2 : Nat) (List.map tyF.elem b3) Tl.open_, AV.lst (5 : Nat) (List.map tyM.elem b4) Tl.open_]])
                (T.br (askL E1 (11 : Nat)
  [AV.agg
      [AV.str a0, AV.str a1, AV.lst (5 : Nat) (List.map tyC.elem a2) Tl.open_,
        AV.lst (2 : Nat) (List.map tyF.elem a3) Tl.open_, AV.lst (5 : Nat) (List.map tyM.elem a4) Tl.open_],
    AV.agg
      [AV.str b0, AV.str b1, AV.lst (5 : Nat) (List.map tyC.elem b2) Tl.open_,
        AV.lst (2 : Nat) (List.map tyF.elem b3) Tl.open_, AV.lst (5 : Nat) (List.map tyM.elem b4) Tl.open_]]
  (AV.bool
    (ask
      (AV.agg
          [AV.str a0, AV.str a1, AV.lst (5 : Nat) (List.map tyC.elem a2) Tl.open_,
            AV.lst (2 : Nat) (List.map tyF.elem a3) Tl.open_, AV.lst (5 : Nat) (List.map tyM.elem a4) Tl.open_] =
        AV.agg
          [AV.str b0, AV.str b1, AV.lst (5 : Nat) (List.map tyC.elem b2) Tl.open_,
            AV.lst (2 : Nat) (List.map tyF.elem b3) Tl.open_, AV.lst (5 : Nat) (List.map tyM.elem b4) Tl.open_]))))
                  (T.br (ask
    (AV.agg
        [AV.str a0, AV.str a1, AV.lst (5 : Nat) (List.map tyC.elem a2) Tl.open_,
          AV.lst (2 : Nat) (List.map tyF.elem a3) Tl.open_, AV.lst (5 : Nat) (List.map tyM.elem a4) Tl.open_] =
      AV.agg
        [AV.str b0, AV.str b1, AV.lst (5 : Nat) (List.map tyC.elem b2) Tl.open_,
          AV.lst (2 : Nat) (List.map tyF.elem b3) Tl.open_, AV.lst (5 : Nat) (List.map tyM.elem b4) Tl.open_]) ==
  ask
    (AV.agg
        [AV.str a0, AV.str a1, AV.lst (5 : Nat) (List.map tyC.elem a2) Tl.open_,
          AV.lst (2 : Nat) (List.map tyF.elem a3) Tl.open_, AV.lst (5 : Nat) (List.map tyM.elem a4) Tl.open_] =
      AV.agg
        [AV.str b0, AV.str b1, AV.lst (5 : Nat) (List.map tyC.elem b2) Tl.open_,
          AV.lst (2 : Nat) (List.map tyF.elem b3) Tl.open_, AV.lst (5 : Nat) (List.map tyM.elem b4) Tl.open_]))
                    (T.br (askQ (clEE (10 : FuncId) tyK).2
  [AV.agg
      [AV.str a0, AV.str a1, AV.lst (5 : Nat) (List.map tyC.elem a2) Tl.open_,
        AV.lst (2 : Nat) (List.map tyF.elem a3) Tl.open_, AV.lst (5 : Nat) (List.map tyM.elem a4) Tl.open_],
    AV.agg
      [AV.str a0, AV.str a1, AV.lst (5 : Nat) (List.map tyC.elem a2) Tl.open_,
        AV.lst (2 : Nat) (List.map tyF.elem a3) Tl.open_, AV.lst (5 : Nat) (List.map tyM.elem a4) Tl.open_]])
                      (T.br (askL E1 (10 : Nat)
  [AV.agg
      [AV.str a0, AV.str a1, AV.lst (5 : Nat) (List.map tyC.elem a2) Tl.open_,
        AV.lst (2 : Nat) (List.map tyF.elem a3) Tl.open_, AV.lst (5 : Nat) (List.map tyM.elem a4) Tl.open_],
    AV.agg
      [AV.str a0, AV.str a1, AV.lst (5 : Nat) (List.map tyC.elem a2) Tl.open_,
        AV.lst (2 : Nat) (List.map tyF.elem a3) Tl.open_, AV.lst (5 : Nat) (List.map tyM.elem a4) Tl.open_]]
  (AV.bool
    (ask
      (AV.agg
          [AV.str a0, AV.str a1, AV.lst (5 : Nat) (List.map tyC.elem a2) Tl.open_,
            AV.lst (2 : Nat) (List.map tyF.elem a3) Tl.open_, AV.lst (5 : Nat) (List.map tyM.elem a4) Tl.open_] =
        AV.agg
          [AV.str a0, AV.str a1, AV.lst (5 : Nat) (List.map tyC.elem a2) Tl.open_,
            AV.lst (2 : Nat) (List.map tyF.elem a3) Tl.open_, AV.lst (5 : Nat) (List.map tyM.elem a4) Tl.open_]))))
                        (T.br (ask
  (AV.agg
      [AV.str a0, AV.str a1, AV.lst (5 : Nat) (List.map tyC.elem a2) Tl.open_,
        AV.lst (2 : Nat) (List.map tyF.elem a3) Tl.open_, AV.lst (5 : Nat) (List.map tyM.elem a4) Tl.open_] =
    AV.agg
      [AV.str a0, AV.str a1, AV.lst (5 : Nat) (List.map tyC.elem a2) Tl.open_,
        AV.lst (2 : Nat) (List.map tyF.elem a3) Tl.open_, AV.lst (5 : Nat) (List.map tyM.elem a4) Tl.open_]))
                          (T.br (askQ (clEE (10 : FuncId) tyK).2
  [AV.agg
      [AV.str b0, AV.str b1, AV.lst (5 : Nat) (List.map tyC.elem b2) Tl.open_,
        AV.lst (2 : Nat) (List.map tyF.elem b3) Tl.open_, AV.lst (5 : Nat) (List.map tyM.elem b4) Tl.open_],
    AV.agg
      [AV.str b0, AV.str b1, AV.lst (5 : Nat) (List.map tyC.elem b2) Tl.open_,
        AV.lst (2 : Nat) (List.map tyF.elem b3) Tl.open_, AV.lst (5 : Nat) (List.map tyM.elem b4) Tl.open_]])
                            (T.br (askL E1 (10 : Nat)
  [AV.agg
      [AV.str b0, AV.str b1, AV.lst (5 : Nat) (List.map tyC.elem b2) Tl.open_,
        AV.lst (2 : Nat) (List.map tyF.elem b3) Tl.open_, AV.lst (5 : Nat) (List.map tyM.elem b4) Tl.open_],
    AV.agg
      [AV.str b0, AV.str b1, AV.lst (5 : Nat) (List.map tyC.elem b2) Tl.open_,
        AV.lst (2 : Nat) (List.map tyF.elem b3) Tl.open_, AV.lst (5 : Nat) (List.map tyM.elem b4) Tl.open_]]
  (AV.bool
    (ask
      (AV.agg
          [AV.str b0, AV.str b1, AV.lst (5 : Nat) (List.map tyC.elem b2) Tl.open_,
            AV.lst (2 : Nat) (List.map tyF.elem b3) Tl.open_, AV.lst (5 : Nat) (List.map tyM.elem b4) Tl.open_] =
        AV.agg
          [AV.str b0, AV.str b1, AV.lst (5 : Nat) (List.map tyC.elem b2) Tl.open_,
            AV.lst (2 : Nat) (List.map tyF.elem b3) Tl.open_, AV.lst (5 : Nat) (List.map tyM.elem b4) Tl.open_]))))
                              (T.br (ask
  (AV.agg
      [AV.str b0, AV.str b1, AV.lst (5 : Nat) (List.map tyC.elem b2) Tl.open_,
        AV.lst (2 : Nat) (List.map tyF.elem b3) Tl.open_, AV.lst (5 : Nat) (List.map tyM.elem b4) Tl.open_] =
    AV.agg
      [AV.str b0, AV.str b1, AV.lst (5 : Nat) (List.map tyC.elem b2) Tl.open_,
        AV.lst (2 : Nat) (List.map tyF.elem b3) Tl.open_, AV.lst (5 : Nat) (List.map tyM.elem b4) Tl.open_]))
                                (T.br (askQ (clK (9 : FuncId)).2 [])
                                  (T.br (askL E1 (9 : Nat) [] (AV.bool true))
                                    (T.leaf (AV.bool true))
                                    T.fail)
                                  T.fail)
                                (T.leaf (AV.bool false)))
                              T.fail)
                            T.fail)
                          (T.br false
                            (T.br (askQ (clK (9 : FuncId)).2 [])
                              (T.br (askL E1 (9 : Nat) [] (AV.bool true))
                                (T.leaf (AV.bool true))
                                T.fail)
                              T.fail)
                            (T.leaf (AV.bool false))))
                        T.fail)
                      T.fail)
                    (T.br false
                      (T.br (askQ (clEE (10 : FuncId) tyK).2
  [AV.agg
      [AV.str b0, AV.str b1, AV.lst (5 : Nat) (List.map tyC.elem b2) Tl.open_,
        AV.lst (2 : Nat) (List.map tyF.elem b3) Tl.open_, AV.lst (5 : Nat) (List.map tyM.elem b4) Tl.open_],
    AV.agg
      [AV.str b0, AV.str b1, AV.lst (5 : Nat) (List.map tyC.elem b2) Tl.open_,
        AV.lst (2 : Nat) (List.map tyF.elem b3) Tl.open_, AV.lst (5 : Nat) (List.map tyM.elem b4) Tl.open_]])
                        (T.br (askL E1 (10 : Nat)
  [AV.agg
      [AV.str b0, AV.str b1, AV.lst (5 : Nat) (List.map tyC.elem b2) Tl.open_,
        AV.lst (2 : Nat) (List.map tyF.elem b3) Tl.open_, AV.lst (5 : Nat) (List.map tyM.elem b4) Tl.open_],
    AV.agg
      [AV.str b0, AV.str b1, AV.lst (5 : Nat) (List.map tyC.elem b2) Tl.open_,
        AV.lst (2 : Nat) (List.map tyF.elem b3) Tl.open_, AV.lst (5 : Nat) (List.map tyM.elem b4) Tl.open_]]
  (AV.bool
    (ask
      (AV.agg
          [AV.str b0, AV.str b1, AV.lst (5 : Nat) (List.map tyC.elem b2) Tl.open_,
            AV.lst (2 : Nat) (List.map tyF.elem b3) Tl.open_, AV.lst (5 : Nat) (List.map tyM.elem b4) Tl.open_] =
        AV.agg
          [AV.str b0, AV.str b1, AV.lst (5 : Nat) (List.map tyC.elem b2) Tl.open_,
            AV.lst (2 : Nat) (List.map tyF.elem b3) Tl.open_, AV.lst (5 : Nat) (List.map tyM.elem b4) Tl.open_]))))
                          (T.br (ask
  (AV.agg
      [AV.str b0, AV.str b1, AV.lst (5 : Nat) (List.map tyC.elem b2) Tl.open_,
        AV.lst (2 : Nat) (List.map tyF.elem b3) Tl.open_, AV.lst (5 : Nat) (List.map tyM.elem b4) Tl.open_] =
    AV.agg
      [AV.str b0, AV.str b1, AV.lst (5 : Nat) (List.map tyC.elem b2) Tl.open_,
        AV.lst (2 : Nat) (List.map tyF.elem b3) Tl.open_, AV.lst (5 : Nat) (List.map tyM.elem b4) Tl.open_]))
                            (T.br (askQ (clK (9 : FuncId)).2 [])
                              (T.br (askL E1 (9 : Nat) [] (AV.bool true))
                                (T.leaf (AV.bool true))
                                T.fail)
                              T.fail)
                            (T.leaf (AV.bool false)))
                          T.fail)
                        T.fail)
                      (T.br false
                        (T.br (askQ (clK (9 : FuncId)).2 [])
                          (T.br (askL E1 (9 : Nat) [] (AV.bool true))
                            (T.leaf (AV.bool true))
                            T.fail)
                          T.fail)
                        (T.leaf (AV.bool false)))))
                  T.fail)
                T.fail)
              T.fail)
            T.fail))
        T.fail))
    T.fail) := by kernel_rfl
theorem cs3_ok (h9 : ∀ h, Con E0 9 [] h (.bool true) h) : ∀ c, c ∈ cs3 → ∀ args, c.ok args → ∀ h, Con E0 c.f args h (c.res args) h := fun c hc => by
  rcases List.mem_cons.1 hc with rfl | hc
  · exact clK_con h9
  rcases List.mem_cons.1 hc with rfl | hc
  · exact clEE_con con10
  · obtain rfl := List.mem_singleton.1 hc
    exact clEE_con con11
theorem cs3_noF : ∀ c, c ∈ cs3 → ∀ args, noF (c.res args) = true := fun c hc args => by
  rcases List.mem_cons.1 hc with rfl | hc
  · rfl
  rcases List.mem_cons.1 hc with rfl | hc
  · rfl
  · obtain rfl := List.mem_singleton.1 hc
    rfl
theorem g1 (h9 : ∀ h, Con E0 9 [] h (.bool true) h) : Ground E1 := ⟨fun t h => by simpa [E1, E0] using h, lightC_ok rfl (fun c hc args ha h => Con.env (E := E0) (E' := E1) rfl rfl (cs3_ok h9 c hc args ha h)) cs3_noF, bok_none (fun _ => rfl), by kernel_rfl⟩
theorem calls3 (h9 : ∀ h, Con E0 9 [] h (.bool true) h) : CallOK X3.E X3.calls := callsBy_ok rfl fun c hc args ha h => by
  refine Con.env (E := E0) (E' := E1) rfl rfl ?_
  rcases List.mem_cons.1 hc with rfl | hc
  · exact someB_con (by obtain ⟨x, rfl, hx⟩ := ha; exact con8 x hx) h
  · exact cs3_ok h9 c hc args ha h
theorem con3 (x y : tyK.I) (hx : tyK.okay x) (hy : tyK.okay y) (h9 : ∀ h, Con E0 9 [] h (.bool true) h) : ∃ h', Con E0 3 [tyK.elem x, tyK.elem y] [] (.bool true) h' := by
  obtain ⟨a0, a1, a2, a3, a4⟩ := x
  obtain ⟨b0, b1, b2, b3, b4⟩ := y
  obtain ⟨A, hA⟩ : ∃ A : AV, A = tyK.elem (a0, a1, a2, a3, a4) := ⟨_, rfl⟩
  obtain ⟨B, hB⟩ : ∃ B : AV, B = tyK.elem (b0, b1, b2, b3, b4) := ⟨_, rfl⟩
  have sa : List.map drop1 [tyK.elem (a0, a1, a2, a3, a4)] = [tyK.elem (a0, a1, a2, a3, a4)] := rfl
  have oa : okE1 tyK [tyK.elem (a0, a1, a2, a3, a4)] := ⟨_, rfl, hx⟩
  have ob : okE1 tyK [tyK.elem (b0, b1, b2, b3, b4)] := ⟨_, rfl, hy⟩
  have oab : okEE tyK [tyK.elem (a0, a1, a2, a3, a4), tyK.elem (b0, b1, b2, b3, b4)] := ⟨_, _, rfl, hx⟩
  have oaa : okEE tyK [tyK.elem (a0, a1, a2, a3, a4), tyK.elem (a0, a1, a2, a3, a4)] := ⟨_, _, rfl, hx⟩
  have obb : okEE tyK [tyK.elem (b0, b1, b2, b3, b4), tyK.elem (b0, b1, b2, b3, b4)] := ⟨_, _, rfl, hy⟩
  have hr : (runV X3 (fun _ => none) Tryz.f3 (bodyOf Tryz.f3) [tyK.elem (a0, a1, a2, a3, a4), tyK.elem (b0, b1, b2, b3, b4)]).run = .ok (.bool true) := by
    refine (congrArg T.run (p3 a0 a1 a2 a3 a4 b0 b1 b2 b3 b4)).trans ?_
    refine bA ?_ oa
    cases ga : g8 [tyK.elem (a0, a1, a2, a3, a4)] with
    | false => exact bT (congrArg not ga) (bT rfl (bA (bL (cs := cs3) (c := clK 9) rfl rfl rfl rfl rfl rfl) rfl))
    | true =>
      refine bF (congrArg not ga) (bA ?_ ob)
      cases gb : g8 [tyK.elem (b0, b1, b2, b3, b4)] with
      | false => exact bT (congrArg not gb) (bA (bL (cs := cs3) (c := clK 9) rfl rfl rfl rfl rfl rfl) rfl)
      | true => exact bF (congrArg not gb) (bA (bL (cs := cs3) (c := clEE 10 tyK) rfl rfl oab rfl rfl (bA (bL (cs := cs3) (c := clEE 11 tyK) rfl rfl oab rfl rfl (bT (beq_self_eq_true _) (bA (bL (cs := cs3) (c := clEE 10 tyK) rfl rfl oaa rfl rfl
          (bT (ask_true rfl) (bA (bL (cs := cs3) (c := clEE 10 tyK) rfl rfl obb rfl rfl (bT (ask_true rfl) (bA (bL (cs := cs3) (c := clK 9) rfl rfl rfl rfl rfl rfl) rfl))) obb))) oaa))) oab)) oab)
  obtain ⟨⟨v, h'⟩, h2, h3⟩ := T.bind_ok hr
  cases h3
  exact ⟨h', Con.env (E := E1) (E' := E0) rfl rfl (Con.of_run (X := X3) (f := 3) (g1 h9) (calls3 h9) (fn := Tryz.f3) Tryz.func3 (c := bodyOf Tryz.f3) rfl rfl (args := [tyK.elem (a0, a1, a2, a3, a4), tyK.elem (b0, b1, b2, b3, b4)]) (h := []) KOK.none h2)⟩

/-! ## the fixed calls, and the row -/
noncomputable def EK : Env := { E0 with C := C0, M := 10000, L := fun f s => f == 22 && s == 11 }
theorem known : val (acall EK 500 9 [] []) = .ok (.bool true) := by kernel_rfl
theorem gK : Ground EK := ⟨fun t h => by simpa [EK, E0] using h, cok0 rfl rfl, bok_none (fun _ => rfl), by kernel_rfl⟩
theorem known9 (h : H) : Con E0 9 [] h (.bool true) h := by
  obtain ⟨h', hh⟩ := val_ok known
  exact Con.base noG0 (Con.env (E := EK) (E' := E0) rfl rfl (Con.of_acall gK hh)) rfl rfl h
theorem ty26 : Ty.of Tryz.prog 40 26 = some tyK := by kernel_rfl
theorem okT26 : okT Tryz.prog 9 26 = true := by kernel_rfl
set_option maxRecDepth 100000 in
theorem open26 {H : Type} {enc : TypeId × Value → H} {b : Nat} {d : DataW H} {ps : List MemPlace} {W : World} {v : Value} (hv : Value.okWide Tryz.prog W .any b 26 v) (h : DataW.Trod enc Tryz.prog W 0 (fun _ => true) true 26 v d ps) (hw : ∀ n ∈ d.weights Tryz.prog 26, n ≤ reachBytes) :
    ∃ x : tyK.I, CR F0 rho0 W v (tyK.elem x) ∧ tyK.okay x := by
  obtain ⟨cs, rfl, _⟩ := okWide_struct Tryz.underlying26 hv
  obtain ⟨fuel, hf⟩ := h
  obtain ⟨l, hc, hs, hl⟩ := open_ok (F := F0) (ρ := rho0) (w := W) (fun B off hF => by
    rcases hF with ⟨b, k, y, h1, _⟩ | h1
    · cases h1
    · exact h1) 9 26 okT26 fuel _ _ hf hw
  obtain ⟨x, hx, hk⟩ := (shp_ty (P := Tryz.prog) 40).1 26 _ ty26 9 l hs
  subst hx
  obtain ⟨a0, a1, a2, a3, a4⟩ := x
  exact ⟨_, .agg_of hc, hk⟩
set_option maxRecDepth 100000 in
theorem klassSame {H : Type} {enc : TypeId × Value → H} {b : Nat} {d d' : DataW H} {ps ps' : List MemPlace} (W : World) (hX : laidMetH Tryz.prog Rows.klassSameRow.laid W)
    (v : Value) (hv : Value.okWide Tryz.prog W .any b 26 v) (h : DataW.Trod enc Tryz.prog W 0 (fun _ => true) true 26 v d ps) (hw : ∀ n ∈ d.weights Tryz.prog 26, n ≤ reachBytes)
    (v' : Value) (hv' : Value.okWide Tryz.prog W .any b 26 v') (h' : DataW.Trod enc Tryz.prog W 0 (fun _ => true) true 26 v' d' ps') (hw' : ∀ n ∈ d'.weights Tryz.prog 26, n ≤ reachBytes) :
    Calls Tryz.prog 3 #[v, v'] W fun e w' => e = .returned (.bool true) ∧ Below W.heap.size W w' := by
  obtain ⟨x, hx, ox⟩ := open26 hv h hw
  obtain ⟨y, hy, oy⟩ := open26 hv' h' hw'
  obtain ⟨m, hc⟩ := con3 x y ox oy known9
  exact Con.bool (E := E0) hc (vs := #[v, v']) (.cons hx (.cons hy .nil)) (fun i cs h => by simp [E0] at h)
end Go.Proofs.YtijfpeonjnacgaaGreatDoor.AM
