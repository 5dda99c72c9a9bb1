/- Texts of this claim, put together. -/
import Derived.Test.YthnajefdiljneaaDoorM7
import Derived.Test.YthnajefdiljneaaDoorM0
import Derived.Test.YthnajefdiljneaaDoorM5
import Derived.Test.YthnajefdiljneaaDoorProg
import Derived.Test.YthnajefdiljneaaDoorRows
import Derived.LaidSub
import Derived.WideShapes
import Derived.Test.YthnajefdiljneaaDoorCards
import Derived.Test.YthnajefdiljneaaDoorTie
import Derived.WalkKit
import Derived.ProofKit
import Derived.OpenShut
import Derived.ShutString
import Derived.ChangeOld
import Derived.Below
import Derived.SizedLaws
import Derived.LaidMore
import Derived.Lay
import Derived.SevenTiedAt
section
-- SQUEEZED
namespace Go.Proofs.YthnajefdiljneaaDoor.AM
open Go Go.Proofs Go.RowKit Go.Proofs.YthnajefdiljneaaDoor Go.Proofs.YthnajefdiljneaaDoorW.PrintWords
set_option linter.unusedVariables false
set_option linter.unusedSimpArgs false
noncomputable def lL:List AV→List tyC.I:=pick [] encG fun p=>(getL p.1 p.2).1
noncomputable def lK:List AV→Int:=pick 0 encG fun p=>(getL p.1 p.2).2.1
noncomputable def lE:List AV→Int:=pick 0 encG fun p=>(getL p.1 p.2).2.2
noncomputable def clGL(f:FuncId):Cl:=⟨f,okGet,fun args=> .tup [encL tyC (lL args), .int .i64 (lK args), .int .i64 (lE args)]⟩
noncomputable def X4(bs:List AV)(C:List tyC.I)(xs:List AV)(e:Int):SX:=XC 4 [22,55,60,66,71,75,77,90,96,100] [clK 16,clAt 17 [.lst 1 bs .open_,encL tyC C] (.tup [.lst 1 xs .open_, .int .i64 e]),clAt 18 [.lst 1 bs .open_,encL tyC C] (.tup [.lst 1 xs .open_, .int .i64 e]),clGL 19,clGL 20,clLL 21 tyC]
theorem p4(bs:List AV)(C:List tyC.I)(a:Int)(xs:List AV)(e:Int):runV (X4 bs C xs e) (fun _=>none) Tryd.f4 (bodyOf Tryd.f4) [.lst 1 bs .open_,encL tyC C, .int .i64 a]=
 (T.br (decide (300<(↑(List.map tyC.elem C).length:Int)))
  (T.br (askQ (clK 16).2 [])
   (T.leaf (AV.bool true))
   T.fail)
  (T.br (askQ
 (clAt 17 [.lst 1 bs .open_,encL tyC C]
   (AV.tup [.lst 1 xs .open_, .int .i64 e])).2
 [.lst 1 bs .open_, .lst 5 (List.map tyC.elem C) .open_])
   (T.br (askQ
 (clAt 18 [.lst 1 bs .open_,encL tyC C]
   (AV.tup [.lst 1 xs .open_, .int .i64 e])).2
 [.lst 1 bs .open_, .lst 5 (List.map tyC.elem C) .open_])
       (T.br (askQ (clGL 19).2 [.lst 1 bs .open_, .int .i64 a])
        (T.br (askQ (clGL 20).2 [.lst 1 bs .open_, .int .i64 a])
         (T.br (isBytes xs)
          (T.br (isBytes xs)
           (T.br (!decide (bytesOf xs=bytesOf xs))
            (T.br true
             (T.br true
              (T.br true
               (T.br true
                (T.leaf (AV.bool false))
                (T.br (!decide (e=0))
                 (T.br (askQ (clK 16).2 [])
                  (T.leaf (AV.bool true))
                  T.fail)
                 (T.br (askQ (clGL 19).2
 [.lst 1 xs .open_, .int .i64 (↑bs.length:Int)])
               (T.br (askQ (clLL 21 tyC).2
 [.lst 5 (List.map tyC.elem (lL [.lst 1 xs .open_, .int .i64 (↑bs.length:Int)]))
   .open_,
  .lst 5 (List.map tyC.elem C) .open_])
                (T.br (ask
 (AV.lst 5 (List.map tyC.elem (lL [.lst 1 xs .open_, .int .i64 (↑bs.length:Int)]))
   .open_=
  AV.lst 5 (List.map tyC.elem C) .open_))
                 (T.br (decide
 (lK [.lst 1 xs .open_, .int .i64 (↑bs.length:Int)]=(↑xs.length:Int)))
                                   (T.br (decide
 (lE [.lst 1 xs .open_, .int .i64 (↑bs.length:Int)]=0))
                   (T.br (askQ (clK 16).2 [])
                    (T.leaf (AV.bool true))
                    T.fail)
                   (T.leaf (AV.bool false)))
                                   (T.br false
                                    (T.br (askQ (clK 16).2 [])
                                     (T.leaf (AV.bool true))
                                     T.fail)
                                    (T.leaf (AV.bool false))))
                 (T.br false
                  (T.br (decide
 (lE [.lst 1 xs .open_, .int .i64 (↑bs.length:Int)]=0))
                   (T.br (askQ (clK 16).2 [])
                    (T.leaf (AV.bool true))
                    T.fail)
                   (T.leaf (AV.bool false)))
                                   (T.br false
                                    (T.br (askQ (clK 16).2 [])
                                     (T.leaf (AV.bool true))
                                     T.fail)
                                    (T.leaf (AV.bool false)))))
                T.fail)
                             T.fail)))
            (T.br (!decide
  (lE [.lst 1 bs .open_, .int .i64 a]=lE [.lst 1 bs .open_, .int .i64 a]))
             (T.leaf (AV.bool false))
             (T.br (!decide (e=0))
              (T.br (askQ (clK 16).2 [])
               (T.leaf (AV.bool true))
               T.fail)
              (T.br (askQ (clGL 19).2
 [.lst 1 xs .open_, .int .i64 (↑bs.length:Int)])
               (T.br (askQ (clLL 21 tyC).2
 [.lst 5 (List.map tyC.elem (lL [.lst 1 xs .open_, .int .i64 (↑bs.length:Int)]))
   .open_,
  .lst 5 (List.map tyC.elem C) .open_])
                (T.br (ask
 (AV.lst 5 (List.map tyC.elem (lL [.lst 1 xs .open_, .int .i64 (↑bs.length:Int)]))
   .open_=
  AV.lst 5 (List.map tyC.elem C) .open_))
                 (T.br (decide
 (lK [.lst 1 xs .open_, .int .i64 (↑bs.length:Int)]=(↑xs.length:Int)))
                                   (T.br (decide
 (lE [.lst 1 xs .open_, .int .i64 (↑bs.length:Int)]=0))
                   (T.br (askQ (clK 16).2 [])
                    (T.leaf (AV.bool true))
                    T.fail)
                   (T.leaf (AV.bool false)))
                                   (T.br false
                                    (T.br (askQ (clK 16).2 [])
                                     (T.leaf (AV.bool true))
                                     T.fail)
                                    (T.leaf (AV.bool false))))
                 (T.br false
                  (T.br (decide
 (lE [.lst 1 xs .open_, .int .i64 (↑bs.length:Int)]=0))
                   (T.br (askQ (clK 16).2 [])
                    (T.leaf (AV.bool true))
                    T.fail)
                   (T.leaf (AV.bool false)))
                                   (T.br false
                                    (T.br (askQ (clK 16).2 [])
                                     (T.leaf (AV.bool true))
                                     T.fail)
                                    (T.leaf (AV.bool false)))))
                T.fail)
                             T.fail))))
           (T.br (!decide
  (lK [.lst 1 bs .open_, .int .i64 a]=lK [.lst 1 bs .open_, .int .i64 a]))
            (T.br true
             (T.leaf (AV.bool false))
             (T.br (!decide (e=0))
              (T.br (askQ (clK 16).2 [])
               (T.leaf (AV.bool true))
               T.fail)
              (T.br (askQ (clGL 19).2
 [.lst 1 xs .open_, .int .i64 (↑bs.length:Int)])
               (T.br (askQ (clLL 21 tyC).2
 [.lst 5 (List.map tyC.elem (lL [.lst 1 xs .open_, .int .i64 (↑bs.length:Int)]))
   .open_,
  .lst 5 (List.map tyC.elem C) .open_])
                (T.br (ask
 (AV.lst 5 (List.map tyC.elem (lL [.lst 1 xs .open_, .int .i64 (↑bs.length:Int)]))
   .open_=
  AV.lst 5 (List.map tyC.elem C) .open_))
                 (T.br (decide
 (lK [.lst 1 xs .open_, .int .i64 (↑bs.length:Int)]=(↑xs.length:Int)))
                                   (T.br (decide
 (lE [.lst 1 xs .open_, .int .i64 (↑bs.length:Int)]=0))
                   (T.br (askQ (clK 16).2 [])
                    (T.leaf (AV.bool true))
                    T.fail)
                   (T.leaf (AV.bool false)))
                                   (T.br false
                                    (T.br (askQ (clK 16).2 [])
                                     (T.leaf (AV.bool true))
                                     T.fail)
                                    (T.leaf (AV.bool false))))
                 (T.br false
                  (T.br (decide
 (lE [.lst 1 xs .open_, .int .i64 (↑bs.length:Int)]=0))
                   (T.br (askQ (clK 16).2 [])
                    (T.leaf (AV.bool true))
                    T.fail)
                   (T.leaf (AV.bool false)))
                                   (T.br false
                                    (T.br (askQ (clK 16).2 [])
                                     (T.leaf (AV.bool true))
                                     T.fail)
                                    (T.leaf (AV.bool false)))))
                T.fail)
                             T.fail)))
            (T.br (!decide
  (lE [.lst 1 bs .open_, .int .i64 a]=lE [.lst 1 bs .open_, .int .i64 a]))
             (T.leaf (AV.bool false))
             (T.br (!decide (e=0))
              (T.br (askQ (clK 16).2 [])
               (T.leaf (AV.bool true))
               T.fail)
              (T.br (askQ (clGL 19).2
 [.lst 1 xs .open_, .int .i64 (↑bs.length:Int)])
               (T.br (askQ (clLL 21 tyC).2
 [.lst 5 (List.map tyC.elem (lL [.lst 1 xs .open_, .int .i64 (↑bs.length:Int)]))
   .open_,
  .lst 5 (List.map tyC.elem C) .open_])
                (T.br (ask
 (AV.lst 5 (List.map tyC.elem (lL [.lst 1 xs .open_, .int .i64 (↑bs.length:Int)]))
   .open_=
  AV.lst 5 (List.map tyC.elem C) .open_))
                 (T.br (decide
 (lK [.lst 1 xs .open_, .int .i64 (↑bs.length:Int)]=(↑xs.length:Int)))
                                   (T.br (decide
 (lE [.lst 1 xs .open_, .int .i64 (↑bs.length:Int)]=0))
                   (T.br (askQ (clK 16).2 [])
                    (T.leaf (AV.bool true))
                    T.fail)
                   (T.leaf (AV.bool false)))
                                   (T.br false
                                    (T.br (askQ (clK 16).2 [])
                                     (T.leaf (AV.bool true))
                                     T.fail)
                                    (T.leaf (AV.bool false))))
                 (T.br false
                  (T.br (decide
 (lE [.lst 1 xs .open_, .int .i64 (↑bs.length:Int)]=0))
                   (T.br (askQ (clK 16).2 [])
                    (T.leaf (AV.bool true))
                    T.fail)
                   (T.leaf (AV.bool false)))
                                   (T.br false
                                    (T.br (askQ (clK 16).2 [])
                                     (T.leaf (AV.bool true))
                                     T.fail)
                                    (T.leaf (AV.bool false)))))
                T.fail)
                             T.fail)))))
          (T.br (askQ (clLL 21 tyC).2
 [.lst 5 (List.map tyC.elem (lL [.lst 1 bs .open_, .int .i64 a])) .open_,
  .lst 5 (List.map tyC.elem (lL [.lst 1 bs .open_, .int .i64 a])) .open_])
           (T.br (!ask
  (AV.lst 5 (List.map tyC.elem (lL [.lst 1 bs .open_, .int .i64 a])) .open_=
   AV.lst 5 (List.map tyC.elem (lL [.lst 1 bs .open_, .int .i64 a])) .open_))
            (T.br true
             (T.br true
              (T.leaf (AV.bool false))
              (T.br (!decide (e=0))
               (T.br (askQ (clK 16).2 [])
                (T.leaf (AV.bool true))
                T.fail)
               (T.br (askQ (clGL 19).2
 [.lst 1 xs .open_, .int .i64 (↑bs.length:Int)])
                               (T.br (askQ (clLL 21 tyC).2
 [.lst 5 (List.map tyC.elem (lL [.lst 1 xs .open_, .int .i64 (↑bs.length:Int)]))
   .open_,
  .lst 5 (List.map tyC.elem C) .open_])
                 (T.br (ask
 (AV.lst 5 (List.map tyC.elem (lL [.lst 1 xs .open_, .int .i64 (↑bs.length:Int)]))
   .open_=
  AV.lst 5 (List.map tyC.elem C) .open_))
                  (T.br (decide
 (lK [.lst 1 xs .open_, .int .i64 (↑bs.length:Int)]=(↑xs.length:Int)))
                   (T.br (decide
 (lE [.lst 1 xs .open_, .int .i64 (↑bs.length:Int)]=0))
                    (T.br (askQ (clK 16).2 [])
                     (T.leaf (AV.bool true))
                     T.fail)
                    (T.leaf (AV.bool false)))
                   (T.br false
                    (T.br (askQ (clK 16).2 [])
                     (T.leaf (AV.bool true))
                     T.fail)
                    (T.leaf (AV.bool false))))
                                   (T.br false
                                    (T.br (decide
 (lE [.lst 1 xs .open_, .int .i64 (↑bs.length:Int)]=0))
                    (T.br (askQ (clK 16).2 [])
                     (T.leaf (AV.bool true))
                     T.fail)
                    (T.leaf (AV.bool false)))
                   (T.br false
                    (T.br (askQ (clK 16).2 [])
                     (T.leaf (AV.bool true))
                     T.fail)
                    (T.leaf (AV.bool false)))))
                 T.fail)
                T.fail)))
             (T.br (!decide
  (lE [.lst 1 bs .open_, .int .i64 a]=lE [.lst 1 bs .open_, .int .i64 a]))
              (T.leaf (AV.bool false))
              (T.br (!decide (e=0))
               (T.br (askQ (clK 16).2 [])
                (T.leaf (AV.bool true))
                T.fail)
               (T.br (askQ (clGL 19).2
 [.lst 1 xs .open_, .int .i64 (↑bs.length:Int)])
                               (T.br (askQ (clLL 21 tyC).2
 [.lst 5 (List.map tyC.elem (lL [.lst 1 xs .open_, .int .i64 (↑bs.length:Int)]))
   .open_,
  .lst 5 (List.map tyC.elem C) .open_])
                 (T.br (ask
 (AV.lst 5 (List.map tyC.elem (lL [.lst 1 xs .open_, .int .i64 (↑bs.length:Int)]))
   .open_=
  AV.lst 5 (List.map tyC.elem C) .open_))
                  (T.br (decide
 (lK [.lst 1 xs .open_, .int .i64 (↑bs.length:Int)]=(↑xs.length:Int)))
                   (T.br (decide
 (lE [.lst 1 xs .open_, .int .i64 (↑bs.length:Int)]=0))
                    (T.br (askQ (clK 16).2 [])
                     (T.leaf (AV.bool true))
                     T.fail)
                    (T.leaf (AV.bool false)))
                   (T.br false
                    (T.br (askQ (clK 16).2 [])
                     (T.leaf (AV.bool true))
                     T.fail)
                    (T.leaf (AV.bool false))))
                                   (T.br false
                                    (T.br (decide
 (lE [.lst 1 xs .open_, .int .i64 (↑bs.length:Int)]=0))
                    (T.br (askQ (clK 16).2 [])
                     (T.leaf (AV.bool true))
                     T.fail)
                    (T.leaf (AV.bool false)))
                   (T.br false
                    (T.br (askQ (clK 16).2 [])
                     (T.leaf (AV.bool true))
                     T.fail)
                    (T.leaf (AV.bool false)))))
                 T.fail)
                T.fail))))
            (T.br (!decide
  (lK [.lst 1 bs .open_, .int .i64 a]=lK [.lst 1 bs .open_, .int .i64 a]))
             (T.br true
              (T.leaf (AV.bool false))
              (T.br (!decide (e=0))
               (T.br (askQ (clK 16).2 [])
                (T.leaf (AV.bool true))
                T.fail)
               (T.br (askQ (clGL 19).2
 [.lst 1 xs .open_, .int .i64 (↑bs.length:Int)])
                               (T.br (askQ (clLL 21 tyC).2
 [.lst 5 (List.map tyC.elem (lL [.lst 1 xs .open_, .int .i64 (↑bs.length:Int)]))
   .open_,
  .lst 5 (List.map tyC.elem C) .open_])
                 (T.br (ask
 (AV.lst 5 (List.map tyC.elem (lL [.lst 1 xs .open_, .int .i64 (↑bs.length:Int)]))
   .open_=
  AV.lst 5 (List.map tyC.elem C) .open_))
                  (T.br (decide
 (lK [.lst 1 xs .open_, .int .i64 (↑bs.length:Int)]=(↑xs.length:Int)))
                   (T.br (decide
 (lE [.lst 1 xs .open_, .int .i64 (↑bs.length:Int)]=0))
                    (T.br (askQ (clK 16).2 [])
                     (T.leaf (AV.bool true))
                     T.fail)
                    (T.leaf (AV.bool false)))
                   (T.br false
                    (T.br (askQ (clK 16).2 [])
                     (T.leaf (AV.bool true))
                     T.fail)
                    (T.leaf (AV.bool false))))
                                   (T.br false
                                    (T.br (decide
 (lE [.lst 1 xs .open_, .int .i64 (↑bs.length:Int)]=0))
                    (T.br (askQ (clK 16).2 [])
                     (T.leaf (AV.bool true))
                     T.fail)
                    (T.leaf (AV.bool false)))
                   (T.br false
                    (T.br (askQ (clK 16).2 [])
                     (T.leaf (AV.bool true))
                     T.fail)
                    (T.leaf (AV.bool false)))))
                 T.fail)
                T.fail)))
             (T.br (!decide
  (lE [.lst 1 bs .open_, .int .i64 a]=lE [.lst 1 bs .open_, .int .i64 a]))
              (T.leaf (AV.bool false))
              (T.br (!decide (e=0))
               (T.br (askQ (clK 16).2 [])
                (T.leaf (AV.bool true))
                T.fail)
               (T.br (askQ (clGL 19).2
 [.lst 1 xs .open_, .int .i64 (↑bs.length:Int)])
                               (T.br (askQ (clLL 21 tyC).2
 [.lst 5 (List.map tyC.elem (lL [.lst 1 xs .open_, .int .i64 (↑bs.length:Int)]))
   .open_,
  .lst 5 (List.map tyC.elem C) .open_])
                 (T.br (ask
 (AV.lst 5 (List.map tyC.elem (lL [.lst 1 xs .open_, .int .i64 (↑bs.length:Int)]))
   .open_=
  AV.lst 5 (List.map tyC.elem C) .open_))
                  (T.br (decide
 (lK [.lst 1 xs .open_, .int .i64 (↑bs.length:Int)]=(↑xs.length:Int)))
                   (T.br (decide
 (lE [.lst 1 xs .open_, .int .i64 (↑bs.length:Int)]=0))
                    (T.br (askQ (clK 16).2 [])
                     (T.leaf (AV.bool true))
                     T.fail)
                    (T.leaf (AV.bool false)))
                   (T.br false
                    (T.br (askQ (clK 16).2 [])
                     (T.leaf (AV.bool true))
                     T.fail)
                    (T.leaf (AV.bool false))))
                                   (T.br false
                                    (T.br (decide
 (lE [.lst 1 xs .open_, .int .i64 (↑bs.length:Int)]=0))
                    (T.br (askQ (clK 16).2 [])
                     (T.leaf (AV.bool true))
                     T.fail)
                    (T.leaf (AV.bool false)))
                   (T.br false
                    (T.br (askQ (clK 16).2 [])
                     (T.leaf (AV.bool true))
                     T.fail)
                    (T.leaf (AV.bool false)))))
                 T.fail)
                T.fail)))))
           T.fail))
         (T.br (!decide (e=e))
          (T.br true
           (T.br true
            (T.br true
             (T.leaf (AV.bool false))
             (T.br (!decide (e=0))
              (T.br (askQ (clK 16).2 [])
               (T.leaf (AV.bool true))
               T.fail)
              (T.br (askQ (clGL 19).2
 [.lst 1 xs .open_, .int .i64 (↑bs.length:Int)])
               (T.br (askQ (clLL 21 tyC).2
 [.lst 5 (List.map tyC.elem (lL [.lst 1 xs .open_, .int .i64 (↑bs.length:Int)]))
   .open_,
  .lst 5 (List.map tyC.elem C) .open_])
                (T.br (ask
 (AV.lst 5 (List.map tyC.elem (lL [.lst 1 xs .open_, .int .i64 (↑bs.length:Int)]))
   .open_=
  AV.lst 5 (List.map tyC.elem C) .open_))
                 (T.br (decide
 (lK [.lst 1 xs .open_, .int .i64 (↑bs.length:Int)]=(↑xs.length:Int)))
                                   (T.br (decide
 (lE [.lst 1 xs .open_, .int .i64 (↑bs.length:Int)]=0))
                   (T.br (askQ (clK 16).2 [])
                    (T.leaf (AV.bool true))
                    T.fail)
                   (T.leaf (AV.bool false)))
                                   (T.br false
                                    (T.br (askQ (clK 16).2 [])
                                     (T.leaf (AV.bool true))
                                     T.fail)
                                    (T.leaf (AV.bool false))))
                 (T.br false
                  (T.br (decide
 (lE [.lst 1 xs .open_, .int .i64 (↑bs.length:Int)]=0))
                   (T.br (askQ (clK 16).2 [])
                    (T.leaf (AV.bool true))
                    T.fail)
                   (T.leaf (AV.bool false)))
                                   (T.br false
                                    (T.br (askQ (clK 16).2 [])
                                     (T.leaf (AV.bool true))
                                     T.fail)
                                    (T.leaf (AV.bool false)))))
                T.fail)
                             T.fail)))
            (T.br (!decide
  (lE [.lst 1 bs .open_, .int .i64 a]=lE [.lst 1 bs .open_, .int .i64 a]))
             (T.leaf (AV.bool false))
             (T.br (!decide (e=0))
              (T.br (askQ (clK 16).2 [])
               (T.leaf (AV.bool true))
               T.fail)
              (T.br (askQ (clGL 19).2
 [.lst 1 xs .open_, .int .i64 (↑bs.length:Int)])
               (T.br (askQ (clLL 21 tyC).2
 [.lst 5 (List.map tyC.elem (lL [.lst 1 xs .open_, .int .i64 (↑bs.length:Int)]))
   .open_,
  .lst 5 (List.map tyC.elem C) .open_])
                (T.br (ask
 (AV.lst 5 (List.map tyC.elem (lL [.lst 1 xs .open_, .int .i64 (↑bs.length:Int)]))
   .open_=
  AV.lst 5 (List.map tyC.elem C) .open_))
                 (T.br (decide
 (lK [.lst 1 xs .open_, .int .i64 (↑bs.length:Int)]=(↑xs.length:Int)))
                                   (T.br (decide
 (lE [.lst 1 xs .open_, .int .i64 (↑bs.length:Int)]=0))
                   (T.br (askQ (clK 16).2 [])
                    (T.leaf (AV.bool true))
                    T.fail)
                   (T.leaf (AV.bool false)))
                                   (T.br false
                                    (T.br (askQ (clK 16).2 [])
                                     (T.leaf (AV.bool true))
                                     T.fail)
                                    (T.leaf (AV.bool false))))
                 (T.br false
                  (T.br (decide
 (lE [.lst 1 xs .open_, .int .i64 (↑bs.length:Int)]=0))
                   (T.br (askQ (clK 16).2 [])
                    (T.leaf (AV.bool true))
                    T.fail)
                   (T.leaf (AV.bool false)))
                                   (T.br false
                                    (T.br (askQ (clK 16).2 [])
                                     (T.leaf (AV.bool true))
                                     T.fail)
                                    (T.leaf (AV.bool false)))))
                T.fail)
                             T.fail))))
           (T.br (!decide
  (lK [.lst 1 bs .open_, .int .i64 a]=lK [.lst 1 bs .open_, .int .i64 a]))
            (T.br true
             (T.leaf (AV.bool false))
             (T.br (!decide (e=0))
              (T.br (askQ (clK 16).2 [])
               (T.leaf (AV.bool true))
               T.fail)
              (T.br (askQ (clGL 19).2
 [.lst 1 xs .open_, .int .i64 (↑bs.length:Int)])
               (T.br (askQ (clLL 21 tyC).2
 [.lst 5 (List.map tyC.elem (lL [.lst 1 xs .open_, .int .i64 (↑bs.length:Int)]))
   .open_,
  .lst 5 (List.map tyC.elem C) .open_])
                (T.br (ask
 (AV.lst 5 (List.map tyC.elem (lL [.lst 1 xs .open_, .int .i64 (↑bs.length:Int)]))
   .open_=
  AV.lst 5 (List.map tyC.elem C) .open_))
                 (T.br (decide
 (lK [.lst 1 xs .open_, .int .i64 (↑bs.length:Int)]=(↑xs.length:Int)))
                                   (T.br (decide
 (lE [.lst 1 xs .open_, .int .i64 (↑bs.length:Int)]=0))
                   (T.br (askQ (clK 16).2 [])
                    (T.leaf (AV.bool true))
                    T.fail)
                   (T.leaf (AV.bool false)))
                                   (T.br false
                                    (T.br (askQ (clK 16).2 [])
                                     (T.leaf (AV.bool true))
                                     T.fail)
                                    (T.leaf (AV.bool false))))
                 (T.br false
                  (T.br (decide
 (lE [.lst 1 xs .open_, .int .i64 (↑bs.length:Int)]=0))
                   (T.br (askQ (clK 16).2 [])
                    (T.leaf (AV.bool true))
                    T.fail)
                   (T.leaf (AV.bool false)))
                                   (T.br false
                                    (T.br (askQ (clK 16).2 [])
                                     (T.leaf (AV.bool true))
                                     T.fail)
                                    (T.leaf (AV.bool false)))))
                T.fail)
                             T.fail)))
            (T.br (!decide
  (lE [.lst 1 bs .open_, .int .i64 a]=lE [.lst 1 bs .open_, .int .i64 a]))
             (T.leaf (AV.bool false))
             (T.br (!decide (e=0))
              (T.br (askQ (clK 16).2 [])
               (T.leaf (AV.bool true))
               T.fail)
              (T.br (askQ (clGL 19).2
 [.lst 1 xs .open_, .int .i64 (↑bs.length:Int)])
               (T.br (askQ (clLL 21 tyC).2
 [.lst 5 (List.map tyC.elem (lL [.lst 1 xs .open_, .int .i64 (↑bs.length:Int)]))
   .open_,
  .lst 5 (List.map tyC.elem C) .open_])
                (T.br (ask
 (AV.lst 5 (List.map tyC.elem (lL [.lst 1 xs .open_, .int .i64 (↑bs.length:Int)]))
   .open_=
  AV.lst 5 (List.map tyC.elem C) .open_))
                 (T.br (decide
 (lK [.lst 1 xs .open_, .int .i64 (↑bs.length:Int)]=(↑xs.length:Int)))
                                   (T.br (decide
 (lE [.lst 1 xs .open_, .int .i64 (↑bs.length:Int)]=0))
                   (T.br (askQ (clK 16).2 [])
                    (T.leaf (AV.bool true))
                    T.fail)
                   (T.leaf (AV.bool false)))
                                   (T.br false
                                    (T.br (askQ (clK 16).2 [])
                                     (T.leaf (AV.bool true))
                                     T.fail)
                                    (T.leaf (AV.bool false))))
                 (T.br false
                  (T.br (decide
 (lE [.lst 1 xs .open_, .int .i64 (↑bs.length:Int)]=0))
                   (T.br (askQ (clK 16).2 [])
                    (T.leaf (AV.bool true))
                    T.fail)
                   (T.leaf (AV.bool false)))
                                   (T.br false
                                    (T.br (askQ (clK 16).2 [])
                                     (T.leaf (AV.bool true))
                                     T.fail)
                                    (T.leaf (AV.bool false)))))
                T.fail)
                             T.fail)))))
          (T.br (askQ (clLL 21 tyC).2
 [.lst 5 (List.map tyC.elem (lL [.lst 1 bs .open_, .int .i64 a])) .open_,
  .lst 5 (List.map tyC.elem (lL [.lst 1 bs .open_, .int .i64 a])) .open_])
           (T.br (!ask
  (AV.lst 5 (List.map tyC.elem (lL [.lst 1 bs .open_, .int .i64 a])) .open_=
   AV.lst 5 (List.map tyC.elem (lL [.lst 1 bs .open_, .int .i64 a])) .open_))
            (T.br true
             (T.br true
              (T.leaf (AV.bool false))
              (T.br (!decide (e=0))
               (T.br (askQ (clK 16).2 [])
                (T.leaf (AV.bool true))
                T.fail)
               (T.br (askQ (clGL 19).2
 [.lst 1 xs .open_, .int .i64 (↑bs.length:Int)])
                               (T.br (askQ (clLL 21 tyC).2
 [.lst 5 (List.map tyC.elem (lL [.lst 1 xs .open_, .int .i64 (↑bs.length:Int)]))
   .open_,
  .lst 5 (List.map tyC.elem C) .open_])
                 (T.br (ask
 (AV.lst 5 (List.map tyC.elem (lL [.lst 1 xs .open_, .int .i64 (↑bs.length:Int)]))
   .open_=
  AV.lst 5 (List.map tyC.elem C) .open_))
                  (T.br (decide
 (lK [.lst 1 xs .open_, .int .i64 (↑bs.length:Int)]=(↑xs.length:Int)))
                   (T.br (decide
 (lE [.lst 1 xs .open_, .int .i64 (↑bs.length:Int)]=0))
                    (T.br (askQ (clK 16).2 [])
                     (T.leaf (AV.bool true))
                     T.fail)
                    (T.leaf (AV.bool false)))
                   (T.br false
                    (T.br (askQ (clK 16).2 [])
                     (T.leaf (AV.bool true))
                     T.fail)
                    (T.leaf (AV.bool false))))
                                   (T.br false
                                    (T.br (decide
 (lE [.lst 1 xs .open_, .int .i64 (↑bs.length:Int)]=0))
                    (T.br (askQ (clK 16).2 [])
                     (T.leaf (AV.bool true))
                     T.fail)
                    (T.leaf (AV.bool false)))
                   (T.br false
                    (T.br (askQ (clK 16).2 [])
                     (T.leaf (AV.bool true))
                     T.fail)
                    (T.leaf (AV.bool false)))))
                 T.fail)
                T.fail)))
             (T.br (!decide
  (lE [.lst 1 bs .open_, .int .i64 a]=lE [.lst 1 bs .open_, .int .i64 a]))
              (T.leaf (AV.bool false))
              (T.br (!decide (e=0))
               (T.br (askQ (clK 16).2 [])
                (T.leaf (AV.bool true))
                T.fail)
               (T.br (askQ (clGL 19).2
 [.lst 1 xs .open_, .int .i64 (↑bs.length:Int)])
                               (T.br (askQ (clLL 21 tyC).2
 [.lst 5 (List.map tyC.elem (lL [.lst 1 xs .open_, .int .i64 (↑bs.length:Int)]))
   .open_,
  .lst 5 (List.map tyC.elem C) .open_])
                 (T.br (ask
 (AV.lst 5 (List.map tyC.elem (lL [.lst 1 xs .open_, .int .i64 (↑bs.length:Int)]))
   .open_=
  AV.lst 5 (List.map tyC.elem C) .open_))
                  (T.br (decide
 (lK [.lst 1 xs .open_, .int .i64 (↑bs.length:Int)]=(↑xs.length:Int)))
                   (T.br (decide
 (lE [.lst 1 xs .open_, .int .i64 (↑bs.length:Int)]=0))
                    (T.br (askQ (clK 16).2 [])
                     (T.leaf (AV.bool true))
                     T.fail)
                    (T.leaf (AV.bool false)))
                   (T.br false
                    (T.br (askQ (clK 16).2 [])
                     (T.leaf (AV.bool true))
                     T.fail)
                    (T.leaf (AV.bool false))))
                                   (T.br false
                                    (T.br (decide
 (lE [.lst 1 xs .open_, .int .i64 (↑bs.length:Int)]=0))
                    (T.br (askQ (clK 16).2 [])
                     (T.leaf (AV.bool true))
                     T.fail)
                    (T.leaf (AV.bool false)))
                   (T.br false
                    (T.br (askQ (clK 16).2 [])
                     (T.leaf (AV.bool true))
                     T.fail)
                    (T.leaf (AV.bool false)))))
                 T.fail)
                T.fail))))
            (T.br (!decide
  (lK [.lst 1 bs .open_, .int .i64 a]=lK [.lst 1 bs .open_, .int .i64 a]))
             (T.br true
              (T.leaf (AV.bool false))
              (T.br (!decide (e=0))
               (T.br (askQ (clK 16).2 [])
                (T.leaf (AV.bool true))
                T.fail)
               (T.br (askQ (clGL 19).2
 [.lst 1 xs .open_, .int .i64 (↑bs.length:Int)])
                               (T.br (askQ (clLL 21 tyC).2
 [.lst 5 (List.map tyC.elem (lL [.lst 1 xs .open_, .int .i64 (↑bs.length:Int)]))
   .open_,
  .lst 5 (List.map tyC.elem C) .open_])
                 (T.br (ask
 (AV.lst 5 (List.map tyC.elem (lL [.lst 1 xs .open_, .int .i64 (↑bs.length:Int)]))
   .open_=
  AV.lst 5 (List.map tyC.elem C) .open_))
                  (T.br (decide
 (lK [.lst 1 xs .open_, .int .i64 (↑bs.length:Int)]=(↑xs.length:Int)))
                   (T.br (decide
 (lE [.lst 1 xs .open_, .int .i64 (↑bs.length:Int)]=0))
                    (T.br (askQ (clK 16).2 [])
                     (T.leaf (AV.bool true))
                     T.fail)
                    (T.leaf (AV.bool false)))
                   (T.br false
                    (T.br (askQ (clK 16).2 [])
                     (T.leaf (AV.bool true))
                     T.fail)
                    (T.leaf (AV.bool false))))
                                   (T.br false
                                    (T.br (decide
 (lE [.lst 1 xs .open_, .int .i64 (↑bs.length:Int)]=0))
                    (T.br (askQ (clK 16).2 [])
                     (T.leaf (AV.bool true))
                     T.fail)
                    (T.leaf (AV.bool false)))
                   (T.br false
                    (T.br (askQ (clK 16).2 [])
                     (T.leaf (AV.bool true))
                     T.fail)
                    (T.leaf (AV.bool false)))))
                 T.fail)
                T.fail)))
             (T.br (!decide
  (lE [.lst 1 bs .open_, .int .i64 a]=lE [.lst 1 bs .open_, .int .i64 a]))
              (T.leaf (AV.bool false))
              (T.br (!decide (e=0))
               (T.br (askQ (clK 16).2 [])
                (T.leaf (AV.bool true))
                T.fail)
               (T.br (askQ (clGL 19).2
 [.lst 1 xs .open_, .int .i64 (↑bs.length:Int)])
                               (T.br (askQ (clLL 21 tyC).2
 [.lst 5 (List.map tyC.elem (lL [.lst 1 xs .open_, .int .i64 (↑bs.length:Int)]))
   .open_,
  .lst 5 (List.map tyC.elem C) .open_])
                 (T.br (ask
 (AV.lst 5 (List.map tyC.elem (lL [.lst 1 xs .open_, .int .i64 (↑bs.length:Int)]))
   .open_=
  AV.lst 5 (List.map tyC.elem C) .open_))
                  (T.br (decide
 (lK [.lst 1 xs .open_, .int .i64 (↑bs.length:Int)]=(↑xs.length:Int)))
                   (T.br (decide
 (lE [.lst 1 xs .open_, .int .i64 (↑bs.length:Int)]=0))
                    (T.br (askQ (clK 16).2 [])
                     (T.leaf (AV.bool true))
                     T.fail)
                    (T.leaf (AV.bool false)))
                   (T.br false
                    (T.br (askQ (clK 16).2 [])
                     (T.leaf (AV.bool true))
                     T.fail)
                    (T.leaf (AV.bool false))))
                                   (T.br false
                                    (T.br (decide
 (lE [.lst 1 xs .open_, .int .i64 (↑bs.length:Int)]=0))
                    (T.br (askQ (clK 16).2 [])
                     (T.leaf (AV.bool true))
                     T.fail)
                    (T.leaf (AV.bool false)))
                   (T.br false
                    (T.br (askQ (clK 16).2 [])
                     (T.leaf (AV.bool true))
                     T.fail)
                    (T.leaf (AV.bool false)))))
                 T.fail)
                T.fail)))))
           T.fail)))
        T.fail)
             T.fail)
           T.fail)
     T.fail)
    T.fail)
     T.fail)):=by kernel_rfl
theorem p4_0(bs:List AV)(C:List tyC.I)(a:Int)(xs:List AV)(e:Int)(h0:300<(↑(List.map tyC.elem C).length:Int))(h1:(askQ (clK 16).2 [])=true):(runV (X4 bs C xs e) (fun _=>none) Tryd.f4 (bodyOf Tryd.f4) [.lst 1 bs .open_,encL tyC C, .int .i64 a]).run= .ok (AV.bool true):=by
 rw[p4];exact(bT (decide_eq_true h0) (bT h1 rfl))
theorem p4_1(bs:List AV)(C:List tyC.I)(a:Int)(xs:List AV)(e:Int)(h0: ¬(300<(↑(List.map tyC.elem C).length:Int)))(h1:(askQ (clGL 19).2 [.lst 1 bs .open_, .int .i64 a])=true)(h2:(askQ (clGL 20).2 [.lst 1 bs .open_, .int .i64 a])=true)(h3:(isBytes xs)=true)(h4:(askQ (clLL 21 tyC).2
 [.lst 5 (List.map tyC.elem (lL [.lst 1 bs .open_, .int .i64 a])) .open_,
  .lst 5 (List.map tyC.elem (lL [.lst 1 bs .open_, .int .i64 a])) .open_])=true) (h5: ¬(e=0)) (h6:(askQ (clK 16).2 [])=true):(runV (X4 bs C xs e) (fun _=>none) Tryd.f4 (bodyOf Tryd.f4) [.lst 1 bs .open_,encL tyC C, .int .i64 a]).run= .ok (AV.bool true):=by
 rw[p4];exact(bF (decide_eq_false h0) (bT (ask_true rfl) (bT (ask_true rfl) (bT h1 (bT h2 (bT h3 (bT h3 (bF (ndF rfl) (bF (ndF rfl) (bT h4 (bF (by rw[ask_true rfl];rfl) (bF (ndF rfl) (bF (ndF rfl) (bT (ndT h5) (bT h6 rfl)))))))))))))))
theorem p4_2(bs:List AV)(C:List tyC.I)(a:Int)(xs:List AV)(e:Int)(h0: ¬(300<(↑(List.map tyC.elem C).length:Int)))(h1:(askQ (clGL 19).2 [.lst 1 bs .open_, .int .i64 a])=true)(h2:(askQ (clGL 20).2 [.lst 1 bs .open_, .int .i64 a])=true)(h3:(isBytes xs)=true)(h4:(askQ (clLL 21 tyC).2
 [.lst 5 (List.map tyC.elem (lL [.lst 1 bs .open_, .int .i64 a])) .open_,
  .lst 5 (List.map tyC.elem (lL [.lst 1 bs .open_, .int .i64 a])) .open_])=true) (h5:e=0) (h6:(askQ (clGL 19).2
 [.lst 1 xs .open_, .int .i64 (↑bs.length:Int)])=true) (h7:(askQ (clLL 21 tyC).2
 [.lst 5 (List.map tyC.elem (lL [.lst 1 xs .open_, .int .i64 (↑bs.length:Int)]))
   .open_,
  .lst 5 (List.map tyC.elem C) .open_])=true) (h8:(ask
 (AV.lst 5 (List.map tyC.elem (lL [.lst 1 xs .open_, .int .i64 (↑bs.length:Int)]))
   .open_=
  AV.lst 5 (List.map tyC.elem C) .open_))=true) (h9:lK [.lst 1 xs .open_, .int .i64 (↑bs.length:Int)]=(↑xs.length:Int)) (h10:lE [.lst 1 xs .open_, .int .i64 (↑bs.length:Int)]=0) (h11:(askQ (clK 16).2 [])=true):(runV (X4 bs C xs e) (fun _=>none) Tryd.f4 (bodyOf Tryd.f4) [.lst 1 bs .open_,encL tyC C, .int .i64 a]).run= .ok (AV.bool true):=by
 rw[p4];exact(bF (decide_eq_false h0) (bT (ask_true rfl) (bT (ask_true rfl) (bT h1 (bT h2 (bT h3 (bT h3 (bF (ndF rfl) (bF (ndF rfl) (bT h4 (bF (by rw[ask_true rfl];rfl) (bF (ndF rfl) (bF (ndF rfl) (bF (ndF h5) (bT h6 (bT h7 (bT h8 (bT (decide_eq_true h9) (bT (decide_eq_true h10) (bT h11 rfl))))))))))))))))))))
theorem lL_eq(bs:List AV)(a:Int):lL [.lst 1 bs .open_, .int .i64 a]=(getL bs a).1:=pick_eq encG_inj (bs,a)
theorem lK_eq(bs:List AV)(a:Int):lK [.lst 1 bs .open_, .int .i64 a]=(getL bs a).2.1:=pick_eq encG_inj (bs,a)
theorem lE_eq(bs:List AV)(a:Int):lE [.lst 1 bs .open_, .int .i64 a]=(getL bs a).2.2:=pick_eq encG_inj (bs,a)
theorem clGLP: ∀args,(clGL 19).ok args→ ∀h,Con E0 (clGL 19).f args h ((clGL 19).res args) h:=by
 rintro args ⟨bs,a,rfl,hb,hl⟩ h;show Con E0 _ _ h (.tup [encL tyC (lL _), .int .i64 (lK _), .int .i64 (lE _)]) h;rw[lL_eq,lK_eq,lE_eq];exact conGetL a hb hl h
theorem clGLR: ∀args,(clGL 20).ok args→ ∀h,Con E0 (clGL 20).f args h ((clGL 20).res args) h:=by
 rintro args ⟨bs,a,rfl,hb,hl⟩ h;show Con E0 _ _ h (.tup [encL tyC (lL _), .int .i64 (lK _), .int .i64 (lE _)]) h;rw[lL_eq,lK_eq,lE_eq];exact conGetLR a hb hl h
theorem readAll_len(bs:List AV): ∀(d:Nat) (a:Int) (L:List tyC.I),(readAll bs d a L).1.length≤L.length+d
 |0,a,L=>Nat.le_refl _
 |d+1,a,L=>by
  simp only[readAll];split
  ·simp
  ·split
   ·simp
   ·have:=readAll_len bs d (getC bs a).2.1 (L++ [(getC bs a).1])
    rw[List.length_append,List.length_singleton]at this;omega
theorem getL_len(bs:List AV)(a:Int):(getL bs a).1.length≤256:=by
 unfold getL;split
 ·simp
 ·split
  ·simp
  ·have:=readAll_len bs (getA bs a).1.toNat (getA bs a).2.1 []
   simp only[List.length_nil]at this;omega
theorem conLists{bs:List AV}{C:List tyC.I}(a:Int)(hb:IsB8 bs)(hl:bs.length≤140737488351232)(hC:C.length≤140737488351232)(hok: ∀x,x∈C→tyC.okay x)(known: ∀h,Con E0 16 [] h (.bool true) h)(h:H):
  Con E0 4 [.lst 1 bs .open_,encL tyC C, .int .i64 a] h (.bool true) h:=by
 obtain⟨xs,hxs⟩: ∃xs,xs=(if poolE C=0 then upB bs C C.length else []):=⟨_,rfl⟩
 have hxb:IsB8 xs:=by
  rw[hxs];split
  ·rename_i he;exact upB_isB8 hb hok he
  ·exact .nil
 have hcall:CallOK (X4 bs C xs (poolE C)).E (X4 bs C xs (poolE C)).calls:=callsBy_ok rfl fun c hc=>by
  simp only[List.mem_cons,List.not_mem_nil,or_false]at hc
  rcases hc with rfl|rfl|rfl|rfl|rfl|rfl
  ·exact clK_con known
  ·exact clAt_con fun m=>by have:=con36 C bs hb.isB (by omega) (by omega) hok m;unfold poolR at this;rw[←hxs]at this;exact this
  ·exact clAt_con fun m=>by have:=con52 C bs hb.isB (by omega) (by omega) hok m;unfold poolR at this;rw[←hxs]at this;exact this
  ·exact clGLP
  ·exact clGLR
  ·exact clLL_con con21
 have fin:(runV (X4 bs C xs (poolE C)) (fun _=>none) Tryd.f4 (bodyOf Tryd.f4) [.lst 1 bs .open_,encL tyC C, .int .i64 a]).run= .ok (.bool true)→Con E0 4 [.lst 1 bs .open_,encL tyC C, .int .i64 a] h (.bool true) h:=fun hr=>
  Con.pureV (X:=X4 bs C xs (poolE C)) g0 noG0 hcall (fn:=Tryd.f4) Tryd.func4 (c:=bodyOf Tryd.f4) rfl rfl (args:= [.lst 1 bs .open_,encL tyC C, .int .i64 a]) KOK.none (noRefsB hb.isB (by simp only[noRefs,encL_noRef];rfl)) hr (Le.refl _) rfl h
 have qK:askQ (clK 16).2 []=true:=ask_true rfl
 have qG: ∀{f:FuncId} {ys:List AV} {k:Int},IsB8 ys→ys.length<281474976710656→askQ (clGL f).2 [.lst 1 ys .open_, .int .i64 k]=true:=fun h1 h2=>ask_true ⟨_,_,rfl,h1,h2⟩
 have qL: ∀{f:FuncId} {L M:List tyC.I},L.length<1000000000000000→askQ (clLL f tyC).2 [.lst 5 (L.map tyC.elem) .open_, .lst 5 (M.map tyC.elem) .open_]=true:=fun{f L M} h1=>ask_true ⟨L,M,rfl,h1⟩
 by_cases h3:300<C.length
 ·exact fin (p4_0 bs C a xs _ (by rw[List.length_map];omega) qK)
 have h3': ¬(300:Int)<((List.map tyC.elem C).length:Int):=by rw[List.length_map];omega
 have q1: ∀{f:FuncId},askQ (clLL f tyC).2 [.lst 5 ((lL [.lst 1 bs .open_, .int .i64 a]).map tyC.elem) .open_, .lst 5 ((lL [.lst 1 bs .open_, .int .i64 a]).map tyC.elem) .open_]=true:=qL (by rw[lL_eq];have:=getL_len bs a;omega)
 by_cases he:poolE C=0
 ·rw[if_pos he]at hxs
  have hlx:=upB_top (b:=bs) hok he;rw[←hxs]at hlx
  have hg:=getL_enc hb hok he (by rw[←hxs];omega)
  rw[←hxs]at hg;refine fin (p4_2 bs C a xs _ h3' (qG hb (by omega)) (qG hb (by omega)) (isBytes_of hxb.isB) q1 he (qG hxb (by omega)) (qL (by rw[lL_eq,hg];show C.length<_;omega)) ?_ ?_ ?_ qK)
  ·rw[lL_eq,hg];exact ask_true rfl
  ·rw[lK_eq,hg]
  ·rw[lE_eq,hg]
 ·exact fin (p4_1 bs C a xs _ h3' (qG hb (by omega)) (qG hb (by omega)) (isBytes_of hxb.isB) q1 he qK)
end Go.Proofs.YthnajefdiljneaaDoor.AM
end
section
-- SQUEEZED
/- The contract of strings.IndexByte. -/
namespace Go.Proofs.YthnajefdiljneaaDoor.AM
open Go.Proofs Go.RowKit
set_option linter.unusedVariables false
theorem indexByte(s:ByteArray)(c:Int)(w:World):Calls Tryd.prog 71 #[.string s, .int .u8 c] w fun e w'=>e= .returned (.int .i64 (Lib.indexByte s.data.toList c.toNat.toUInt8))∧w'=w:=Tryd.strings_IndexByte s c w
def C0:FuncId→List AV→Option AV:=fun f args=>if f=71 then(match args with| [.str s, .int .u8 c]=>some (.int .i64 (Lib.indexByte s.data.toList c.toNat.toUInt8))|_=>none)else none
theorem cok0{E:Env}(hP:E.P=Tryd.prog)(hC:E.C=C0):COK E:=by
 intro f args h r h' hc A ρ w vs hr hargs;rw[hC]at hc;simp only[C0]at hc
 by_cases hf:f=71
 ·subst hf
  rw[if_pos rfl]at hc;split at hc
  ·rename_i r' hr'
   split at hr'
   ·rename_i s c
    cases hr';cases hc;obtain⟨v0,hv0,h0⟩:=hargs.get (j:=0) (y:= .str s) rfl;obtain⟨v1,hv1,h1⟩:=hargs.get (j:=1) (y:= .int .u8 c) rfl;have hl:vs.toList.length=2:=hargs.1
    obtain rfl:vs= #[v0,v1]:=by
     obtain⟨l⟩:=vs
     match l,hl with
     | [a,b],_=>simp at hv0 hv1;subst hv0;subst hv1;rfl
    cases h0;cases h1;refine⟨fun W=>by rw[hP];exact enters_of Tryd.func71 (by kernel_rfl) rfl _ _,?_⟩;rw[hP]
    refine(indexByte s c w).mono fun e w' ⟨he,hw⟩=>?_
    subst hw;exact⟨_,ρ,he,Ext.refl _ _ _,hr, .int _ _⟩
   ·cases hr'
  ·cases hc
 ·rw[if_neg hf]at hc
  cases hc
def val:R (AV×H)→R AV
 | .ok (v,_)=> .ok v
 | .no s=> .no s
theorem val_ok{x:R (AV×H)}{v:AV}(h:val x= .ok v): ∃h',x= .ok (v,h'):=by
 cases x with
 |ok p=>obtain⟨a,b⟩:=p;simp only[val,R.ok.injEq]at h;subst h;exact⟨b,rfl⟩
 |no s=>simp [val]at h
end Go.Proofs.YthnajefdiljneaaDoor.AM
end
section
/- PoolLists: the bytes of any many constants, and any bytes at any place as many, by the program and by the document: each function by the symbolic machine's tree of it, loops by induction; Get and which constants can be: by the print's contracts and the plain laws. -/
namespace Go.Proofs.YthnajefdiljneaaDoor.AM
open Go Go.Proofs Go.RowKit Go.WideShapes Go.Proofs.YthnajefdiljneaaDoor
set_option linter.unusedVariables false
set_option linter.unusedSimpArgs false
noncomputable def EK : Env := { E0 with C := C0, M := 10000 }
theorem known : val (acall EK 500 16 [] []) = .ok (.bool true) := by kernel_rfl
theorem gEK : Ground EK := ⟨fun t h => by simpa [EK, E0] using h, cok0 rfl rfl, bok_none (fun _ => rfl), by kernel_rfl⟩
theorem known16 (h : H) : Con E0 16 [] h (.bool true) h := by
  obtain ⟨h', hh⟩ := val_ok known
  exact Con.base noG0 (Con.env (E := EK) (E' := E0) rfl rfl (Con.of_acall gEK hh)) rfl rfl h
theorem okT38 : okT Tryd.prog 9 38 = true := by kernel_rfl
theorem okT22 : okT Tryd.prog 9 22 = true := by kernel_rfl
theorem ty38 : Ty.of Tryd.prog 40 38 = some (.slice tyC) := by kernel_rfl
theorem ty22 : Ty.of Tryd.prog 40 22 = some (.slice (.int .u8)) := by kernel_rfl
set_option maxRecDepth 100000 in
theorem openS {H : Type} {enc : TypeId × Value → H} {b : Nat} {d : DataW H} {ps : List MemPlace} {W : World} {v : Value} {t e : TypeId} {u : Ty} (hu : Tryd.prog.underlying t = some (.slice e)) (ht : Ty.of Tryd.prog 40 t = some (.slice u)) (ho : okT Tryd.prog 9 t = true) (hv : Value.okWide Tryd.prog W .any b t v) (h : DataW.Trod enc Tryd.prog W 0 (fun _ => true) true t v d ps) (hw : ∀ n ∈ d.weights Tryd.prog t, n ≤ reachBytes) :
    ∃ L : List u.I, CR F0 rho0 W v (encL u L) ∧ (Ty.slice u).okay L := by
  obtain ⟨a, len, cap, rfl⟩ := okWide_slice hu hv
  obtain ⟨fuel, hf⟩ := h
  obtain ⟨l, hc, hs, hl⟩ := open_ok (F := F0) (ρ := rho0) (w := W) (fun B off hF => by
    rcases hF with ⟨b, k, y, h1, _⟩ | h1
    · cases h1
    · exact h1) 9 t ho fuel _ _ hf hw
  obtain ⟨xs, hx, hk⟩ := (shp_ty (P := Tryd.prog) 40).1 t _ ht 9 l hs
  subst hx
  exact ⟨xs, hc.head, hk⟩
theorem u8_isB8 {L : List (Ty.int .u8).I} (h : ∀ x, x ∈ L → (Ty.int .u8).okay x) : IsB8 (L.map (Ty.int .u8).elem) := fun y hy => by
  obtain ⟨x, hx, rfl⟩ := List.mem_map.1 hy
  have h' : (Lit.int .u8 x).wf = true := h x hx
  simp only [Lit.wf, Bool.and_eq_true, decide_eq_true_eq, show IntKind.u8.min = 0 from rfl, show IntKind.u8.max = 255 from rfl] at h'
  exact ⟨x, rfl, h'.1, Int.lt_of_le_of_lt h'.2 (by decide)⟩
set_option maxRecDepth 100000 in
theorem poolLists {H : Type} {enc : TypeId × Value → H} {b : Nat} {d d' : DataW H} {ps ps' : List MemPlace} (W : World) (hX : laidMetH Tryd.prog Rows.poolListsRow.laid W)
    (v : Value) (hv : Value.okWide Tryd.prog W .any b 22 v) (h : DataW.Trod enc Tryd.prog W 0 (fun _ => true) true 22 v d ps) (hw : ∀ n ∈ d.weights Tryd.prog 22, n ≤ reachBytes)
    (v' : Value) (hv' : Value.okWide Tryd.prog W .any b 38 v') (h' : DataW.Trod enc Tryd.prog W 0 (fun _ => true) true 38 v' d' ps') (hw' : ∀ n ∈ d'.weights Tryd.prog 38, n ≤ reachBytes) (a : Int) (_ : (Lit.int .i64 a).wf = true) :
    Calls Tryd.prog 4 #[v, v', .int .i64 a] W fun e w' => e = .returned (.bool true) ∧ Below W.heap.size W w' := by
  obtain ⟨B, hB, kB⟩ := openS Tryd.underlying22 ty22 okT22 hv h hw
  obtain ⟨C, hC, kC⟩ := openS Tryd.underlying38 ty38 okT38 hv' h' hw'
  have hc := conLists (bs := B.map (Ty.int .u8).elem) a (u8_isB8 kB.2) (by rw [List.length_map]; exact kB.1) kC.1 kC.2 known16 []
  exact Con.bool (E := E0) hc (vs := #[v, v', .int .i64 a]) (.cons hB (.cons hC (.cons (.int _ _) .nil))) (fun i cs h => by cases h)
end Go.Proofs.YthnajefdiljneaaDoor.AM
end
section
/- The law PoolLists returns true, whatever readable arguments it is called with, and leaves them as they were; the listed variables of Go's library as the program's text lays them. -/
namespace Go.Proofs.YthnajefdiljneaaDoor.poolLists
open Go.ChangeShapes Go.WideShapes Go.ChangeAt Go.RowKit
open Go.ChangeMaps (open_string shut_string)
set_option linter.unusedVariables false
theorem own : ownKnob Tryd.prog.godebug = none := by kernel_rfl
def laidX : List (String × DataW Unit) := Rows.poolListsRow.laid
theorem laidOut : laidOutB Tryd.prog = true := by kernel_rfl
set_option maxRecDepth 100000 in
theorem lifted (os : Os) (started : os.Started) (H : Type) (enc : TypeId × Value → H) :
    ReturnsInHanded {} Tryd.checked os 4 .any (fun w args => (Rows.poolListsSpec.pre enc Tryd.prog Tryd.f4 [] false w args ∧ laidMetH Tryd.prog Rows.poolListsRow.laid w) ∧ sizedMet enc Tryd.prog Tryd.f4 (OpenSpec.ofChange Rows.poolListsSpec) false w args)
      (Rows.poolListsSpec.post enc Tryd.prog Tryd.f4 false true false false) := by
  refine returnsInHanded_of_change_and (C := Tryd.checked) (X := fun w _ => laidMetH Tryd.prog Rows.poolListsRow.laid w) (fun _ _ _ hh h => h.of_heap hh) own started (by kernel_rfl) Tryd.func4
    (ChangeSpec.witness_shaped (enc := enc) (C := Tryd.checked) (os := os) (X := fun w _ => laidMetH Tryd.prog Rows.poolListsRow.laid w) false (World.laidAll Tryd.prog os Rows.poolListsRow.laid) #[.slice none 0 0, .slice none 0 0, .int .i64 0] 8 (World.laidAll_os _ _ _)
      (World.shaped_of_ZipB (by kernel_rfl) (by kernel_rfl)) (by kernel_rfl) (by kernel_rfl) (by kernel_rfl)
      (by rw [MakeChecks.laidMetH_plain _ _ _ (by kernel_rfl)]; exact laidMet_laidAll _ (by kernel_rfl) (by kernel_rfl))) ?_
  intro W base args ds gs before hval0 hW _ hsz0 hX _
  have hsz : (DataW.weightsEach Tryd.prog (Tryd.f4.params.toList ++ Rows.poolListsSpec.plain.varTypes Tryd.prog) (ds ++ gs)).all (· ≤ reachBytes) = true := hsz0
  have hval : ∀ (j : Nat) t v, Tryd.f4.params[j]? = some t → args[j]? = some v → Value.okWide Tryd.prog W .any base t v := hval0
  have hW' := hW
  obtain ⟨p, q, hA0, hV, rfl, _, _⟩ := hW
  have hA : DataW.TrodAll enc Tryd.prog W 0 (fun _ => true) true Tryd.f4.params.toList args.toList ds p := hA0
  rw [Tryd.params4] at hA hval hsz
  obtain ⟨v0, vs0, d0, ds0, p0, q0, hargs, rfl, rfl, h0, r0⟩ := trodAll_cons hA
  obtain ⟨v1, vs1, d1, ds1, p1, q1, rfl, rfl, rfl, h1, r1⟩ := trodAll_cons r0
  obtain ⟨v2, vs2, d2, ds2, p2, q2, rfl, rfl, rfl, h2, r2⟩ := trodAll_cons r1
  obtain ⟨rfl, rfl, rfl⟩ := trodAll_nil r2
  obtain rfl : args = #[v0, v1, v2] := by cases args; simp_all
  obtain ⟨rfl, rfl⟩ := trodVars_none hV
  have k0 := h0
  have lt0 : ∀ x ∈ p0, x.block < W.heap.size := by obtain ⟨m, hm⟩ := k0; exact DataW.trod_lt m _ _ _ hm
  have k1 := h1
  have lt1 : ∀ x ∈ p1, x.block < W.heap.size := by obtain ⟨m, hm⟩ := k1; exact DataW.trod_lt m _ _ _ hm
  obtain ⟨a2, rfl, rfl, rfl, w2⟩ := open_int Tryd.underlying3 (hval 2 3 v2 rfl rfl) h2
  clear hA0 hval0 hsz0
  refine (AM.poolLists W hX v0 (hval 0 22 v0 rfl rfl) h0 (AM.reach_of hsz (j := 0) (t := 22) rfl rfl) v1 (hval 1 38 v1 rfl rfl) h1 (AM.reach_of hsz (j := 1) (t := 38) rfl rfl) a2 w2).mono fun e W' ⟨he, bel⟩ => ?_
  subst he
  exact ⟨_, rfl, _, _, _, [], _, [], hW', trodAll_mk1 (shut_bool Tryd.underlying4 _), (trodAll_cons_mk (Below.trod laidOut (by kernel_rfl) (of_decide_eq_true (by kernel_rfl)) k0 bel lt0) (trodAll_cons_mk (Below.trod laidOut (by kernel_rfl) (of_decide_eq_true (by kernel_rfl)) k1 bel lt1) (trodAll_cons_mk (shut_int Tryd.underlying3 w2) trodAll_mk0))), rfl, bel.frame _, fun h => by cases h⟩
theorem fact0 : (Rows.poolListsRow.wf (OpenSpec.ofChange Rows.poolListsSpec)) = true := by kernel_rfl
theorem fact1 : (laidOutB Tryd.prog) = true := laidOut
theorem fact2 : (mapsRowed Tryd.prog) = true := by kernel_rfl
theorem fact3 : (Tryd.f4.params.all (Tryd.prog.readableRec ·)) = true := by kernel_rfl
theorem fact4 : (namedTie Tryd.prog Rows.poolListsRow.named Rows.poolListsSpec.vars) = true := by kernel_rfl
theorem fact5 : ((Rows.poolListsRow.stops == [])) = true := by kernel_rfl
theorem fact6 : ((Tryd.prog.stops == [])) = true := by kernel_rfl
theorem fact7 : ((Rows.poolListsRow.knobs == [])) = true := by kernel_rfl
theorem fact8 : ((Tryd.prog.stopKnobs == [])) = true := by kernel_rfl
theorem fact9 : ((Rows.poolListsRow.inPlace == Tryd.prog.inPlace 4)) = true := by kernel_rfl
theorem fact10 : ((Rows.poolListsRow.unfollowed == Tryd.prog.unfollowed 4)) = true := by kernel_rfl
theorem fact11 : ((Rows.poolListsRow.recurses == Tryd.prog.recurses 4)) = true := by kernel_rfl
theorem fact12 : ((Rows.poolListsRow.named == Tryd.prog.varsNamed 4)) = true := by kernel_rfl
theorem fact13 : ((Rows.poolListsRow.maps == (Tryd.f4.params.toList ++ Rows.poolListsSpec.plain.varTypes Tryd.prog).any (Tryd.prog.mapsRec ·))) = true := by kernel_rfl
theorem fact14 : ((Rows.poolListsRow.ifaces == (Tryd.f4.params.toList ++ Rows.poolListsSpec.plain.varTypes Tryd.prog).any (Tryd.prog.ifacesRec ·))) = true := by kernel_rfl
theorem fact15 : ((Rows.poolListsRow.mapsOut == Tryd.prog.mapsAmong Tryd.f4.resultTypes.toList)) = true := by kernel_rfl
theorem fact16 : ((Rows.poolListsRow.loops == (Tryd.f4.params.toList ++ Rows.poolListsSpec.plain.varTypes Tryd.prog).any (Tryd.prog.loopsFrom ·))) = true := by kernel_rfl
theorem fact17 : ((Rows.poolListsRow.wideKeys == (Tryd.f4.params.toList ++ Rows.poolListsSpec.plain.varTypes Tryd.prog ++ Tryd.f4.resultTypes.toList).any (Tryd.prog.wideKeysFrom ·))) = true := by kernel_rfl
theorem fact18 : (Rows.poolListsSpec.vars.all (Tryd.prog.varReadable ·)) = true := by kernel_rfl
theorem fact19 : (Tryd.f4.resultTypes.all (fun t => Tryd.prog.readableRec t && decide (t < Tryd.prog.types.size))) = true := by kernel_rfl
theorem fact20 : ((Rows.poolListsRow.ifacesOut == Tryd.f4.resultTypes.toList.any (Tryd.prog.ifacesRec ·))) = true := by kernel_rfl
theorem fact21 : ((Rows.poolListsRow.loopsOut == Tryd.f4.resultTypes.toList.any (Tryd.prog.loopsFrom ·))) = true := by kernel_rfl
theorem fact22 : ((Rows.poolListsRow.plainKeys == Tryd.prog.plainKeys)) = true := by kernel_rfl
theorem fact23 : (Rows.poolListsRow.shortTexts.isNone) = true := by kernel_rfl
theorem fact24 : (Tryd.prog.stopsHeard) = true := by kernel_rfl
theorem fact25 : (Tryd.prog.mayEnter) = true := by kernel_rfl
theorem fact26 : ((Rows.poolListsRow.lifted == Tryd.prog.liftsFinal)) = true := by kernel_rfl
theorem fact27 : ((Tryd.prog.make == some Rows.poolListsRow.make)) = true := by kernel_rfl
theorem fact28 : ((Rows.poolListsRow.kinds == (if Rows.poolListsRow.domain.isEmpty then [] else Tryd.f4.params.toList.map fun t => match Tryd.prog.underlying t with | some (.int k) => some k | _ => none))) = true := by kernel_rfl
theorem fact29 : ((Rows.poolListsRow.pinned == Rows.poolListsRow.pinnedBy)) = true := by kernel_rfl
theorem fact30 : ((Rows.poolListsRow.veiled == (Tryd.f4.params.toList ++ Rows.poolListsSpec.plain.varTypes Tryd.prog ++ Tryd.f4.resultTypes.toList).any (Tryd.prog.veiledRec ·))) = true := by kernel_rfl
theorem fact31 : (Rows.poolListsRow.veiledFits Tryd.prog Tryd.f4.params.toList (Tryd.f4.params.toList ++ Rows.poolListsSpec.plain.varTypes Tryd.prog ++ Tryd.f4.resultTypes.toList)) = true := by kernel_rfl
theorem and_t {a b : Bool} (h : a = true) (k : b = true) : (a && b) = true := by rw [h, k]; rfl
theorem joined_of {P : Program} {f : FuncId} {fn : Func} {s : ChangeSpec} {c : OpenClaim} (h0 : (c.wf (OpenSpec.ofChange s)) = true) (h1 : (laidOutB P) = true) (h2 : (mapsRowed P) = true) (h3 : (fn.params.all (P.readableRec ·)) = true) (h4 : (namedTie P c.named s.vars) = true) (h5 : ((c.stops == [])) = true) (h6 : ((P.stops == [])) = true) (h7 : ((c.knobs == [])) = true) (h8 : ((P.stopKnobs == [])) = true) (h9 : ((c.inPlace == P.inPlace f)) = true) (h10 : ((c.unfollowed == P.unfollowed f)) = true) (h11 : ((c.recurses == P.recurses f)) = true) (h12 : ((c.named == P.varsNamed f)) = true) (h13 : ((c.maps == (fn.params.toList ++ s.plain.varTypes P).any (P.mapsRec ·))) = true) (h14 : ((c.ifaces == (fn.params.toList ++ s.plain.varTypes P).any (P.ifacesRec ·))) = true) (h15 : ((c.mapsOut == P.mapsAmong fn.resultTypes.toList)) = true) (h16 : ((c.loops == (fn.params.toList ++ s.plain.varTypes P).any (P.loopsFrom ·))) = true) (h17 : ((c.wideKeys == (fn.params.toList ++ s.plain.varTypes P ++ fn.resultTypes.toList).any (P.wideKeysFrom ·))) = true) (h18 : (s.vars.all (P.varReadable ·)) = true) (h19 : (fn.resultTypes.all (fun t => P.readableRec t && decide (t < P.types.size))) = true) (h20 : ((c.ifacesOut == fn.resultTypes.toList.any (P.ifacesRec ·))) = true) (h21 : ((c.loopsOut == fn.resultTypes.toList.any (P.loopsFrom ·))) = true) (h22 : ((c.plainKeys == P.plainKeys)) = true) (h23 : (c.shortTexts.isNone) = true) (h24 : (P.stopsHeard) = true) (h25 : (P.mayEnter) = true) (h26 : ((c.lifted == P.liftsFinal)) = true) (h27 : ((P.make == some c.make)) = true) (h28 : ((c.kinds == (if c.domain.isEmpty then [] else fn.params.toList.map fun t => match P.underlying t with | some (.int k) => some k | _ => none))) = true) (h29 : ((c.pinned == c.pinnedBy)) = true) (h30 : ((c.veiled == (fn.params.toList ++ s.plain.varTypes P ++ fn.resultTypes.toList).any (P.veiledRec ·))) = true) (h31 : (c.veiledFits P fn.params.toList (fn.params.toList ++ s.plain.varTypes P ++ fn.resultTypes.toList)) = true) : joinedFacts P f fn s c = true := by
  unfold joinedFacts
  exact (and_t (and_t (and_t (and_t (and_t (and_t (and_t (and_t (and_t (and_t (and_t (and_t (and_t (and_t (and_t (and_t (and_t (and_t (and_t (and_t (and_t (and_t (and_t (and_t (and_t (and_t (and_t (and_t (and_t (and_t (and_t h0 h1) h2) h3) h4) h5) h6) h7) h8) h9) h10) h11) h12) h13) h14) h15) h16) h17) h18) h19) h20) h21) h22) h23) h24) h25) h26) h27) h28) h29) h30) h31)
theorem closed : joinedFacts Tryd.prog 4 Tryd.f4 Rows.poolListsSpec Rows.poolListsRow = true := joined_of fact0 fact1 fact2 fact3 fact4 fact5 fact6 fact7 fact8 fact9 fact10 fact11 fact12 fact13 fact14 fact15 fact16 fact17 fact18 fact19 fact20 fact21 fact22 fact23 fact24 fact25 fact26 fact27 fact28 fact29 fact30 fact31
theorem over : Rows.PoolListsSaid :=
  OpenClaim.holds_of_wide 4 Tryd.f4 rfl rfl rfl rfl rfl rfl rfl ⟨rfl, rfl, rfl, rfl, rfl⟩ rfl rfl rfl rfl rfl (by as_aux_lemma => kernel_rfl) Tryd.func4 closed
    (of_decide_eq_true (by kernel_rfl)) (by unfold Func.isWrapper; first | (rw [if_pos (by decide +kernel)]; kernel_rfl) | (rw [if_neg (by decide +kernel)]; exact ⟨rfl, rfl⟩))
    (fun os started H enc _ => lifted os started H enc)
theorem pw : Rows.poolListsRow.wfByText (OpenSpec.ofChange Rows.poolListsSpec) = true := by kernel_rfl
theorem pm : Tryd.prog.mainIs = some (true, "a9c6b8ab06e3f779afe848ee15d498557a0178c1ba5655f6494bdfda95ab5158".toList) := by kernel_rfl
theorem pl : false = Tryd.prog.looks [] := by kernel_rfl
theorem pg : false = Rows.poolListsRow.goesBy Tryd.prog := by kernel_rfl
theorem pn : Tryd.prog.funcNamed Rows.poolListsRow.func = some 4 := by kernel_rfl
theorem pp : ∀ (j : Nat) t, Tryd.f4.params[j]? = some t → Tryd.prog.wantsStandIn t = false := by
  intro j t ht
  rw [Tryd.params4] at ht
  have hm : t ∈ [22, 38, 3] := by simpa using Array.mem_of_getElem? ht
  have hall : ([22, 38, 3].all fun u => !Tryd.prog.wantsStandIn u) = true := by kernel_rfl
  exact (show Tryd.prog.wantsStandIn t = false by simpa using List.all_eq_true.1 hall t hm)
theorem ph : ∀ f fn, Tryd.prog.funcNamed Rows.poolListsRow.func = some f → Tryd.prog.funcs[f]? = some fn → false = Tryd.prog.looks [] ∧ ∀ (j : Nat) t, fn.params[j]? = some t → Tryd.prog.wantsStandIn t = false := by
  intro f fn hf hfn
  rw [pn] at hf
  obtain rfl := Option.some.inj hf
  rw [Tryd.func4] at hfn
  obtain rfl := Option.some.inj hfn
  exact ⟨pl, pp⟩
theorem proved : Rows.PoolListsCardSaid :=
  Claim7.holds_tied_plain_at .later [] [.data, .pinned] true (true, "a9c6b8ab06e3f779afe848ee15d498557a0178c1ba5655f6494bdfda95ab5158") false over (fun _ h => by cases h) pw (fun _ h => by cases h) poolLists_row_tie rfl ⟨rfl, rfl⟩ pm rfl ph pg
#print axioms proved
end Go.Proofs.YthnajefdiljneaaDoor.poolLists
namespace Go.Proofs.YthnajefdiljneaaDoor
/-- The card, under a short name, for the claim. -/
theorem poolLists_card : Rows.PoolListsCardSaid := poolLists.proved
end Go.Proofs.YthnajefdiljneaaDoor
end
