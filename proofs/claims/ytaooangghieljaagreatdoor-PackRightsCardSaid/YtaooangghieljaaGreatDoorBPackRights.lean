-- SQUEEZED
/- PackRights: whether a bundle can be, and where classes and turns stand: the program's answers and the document's are the same; each function by the symbolic machine's tree of it, loops by induction. -/
import Derived.Test.YtaooangghieljaaGreatDoorB0
import Derived.Test.YtaooangghieljaaGreatDoorBBundle
import Derived.Test.YtaooangghieljaaGreatDoorA25
import Derived.Test.YtaooangghieljaaGreatDoorRows
import Derived.LaidSub
import Derived.WideShapes
namespace Go.Proofs.YtaooangghieljaaGreatDoor.AM
open Go Go.Proofs Go.RowKit Go.WideShapes
set_option linter.unusedVariables false
set_option linter.unusedSimpArgs false
def st5o(j:Nat)(n:Int):List (Nat×AV):= [(1, .ptr 0 0),(3, .int .i64 n),(4, .int .i64 j)]
def st5i(i:Int)(j:Nat)(n:Int):List (Nat×AV):= [(1, .ptr 0 0),(3, .int .i64 n),(4, .int .i64 i),(5, .ptr 1 0),(6, .int .i64 j)]
def st5p(j:Nat)(n:Int):List (Nat×AV):= [(1, .ptr 0 0),(3, .int .i64 n),(7, .int .i64 j)]
def st5q(i:Int)(j:Nat)(n:Int):List (Nat×AV):= [(1, .ptr 0 0),(3, .int .i64 n),(7, .int .i64 i),(8, .ptr 1 0),(9, .int .i64 j)]
theorem p5i(a0:List tyK.I)(a1:List tyT.I)(c0 c1:ByteArray)(c2:List tyC.I)(c3:List tyF.I)(c4:List tyM.I)(n i k:Int):obsK (XN 5 [14,19,24,36,42,47,52,73,78,90,95,100,113]) (fun _=>none) 114 (sub (bodyOf Tryz.f5) [1,1,1,0,1,0,0,1,0,0,1,1,1,0,0]) [1,1,1,0,1,0,0,1,0,0,1,1,1,0,0] (frm [(1, .ptr 0 0),(3, .int .i64 n),(4, .int .i64 i),(5, .ptr 1 0),(6, .int .i64 k)]) [.var [encL tyK a0,encL tyT a1], .var [.str c0, .str c1,encL tyC c2,encL tyF c3,encL tyM c4]] [1,2,3,4,5,6]=
 (T.br (decide (k<(↑(List.map tyM.elem c4).length:Int))) (T.br (decide ((0:Int)≤k)&&decide (k<(↑(List.map tyM.elem c4).length:Int))&&fitsC Tryz.prog (41:Nat) ((List.map tyM.elem c4).getD k.toNat undef)) (T.br (decide ((0:Int)≤k)&&decide (k<(↑(List.map tyM.elem c4).length:Int))&&fitsC Tryz.prog (41:Nat) ((List.map tyM.elem c4).getD k.toNat undef)) (T.br (decide ((4000
 :Int)<IntKind.i64.wrap (IntKind.i64.wrap (n+(↑(((List.map tyM.elem c4).getD k.toNat undef).cells.getD 3 undef).toL.length:Int))+(↑(((List.map tyM.elem c4).getD k.toNat undef).cells.getD 4 undef).toL.length:Int)))) (T.leaf ((X.ret,[AV.ptr 0 0,AV.bool false,AV.int IntKind.i64 (IntKind.i64.wrap (IntKind.i64.wrap (n+(↑(((List.map tyM.elem c4).getD k.toNat undef).cells.getD 3
 undef).toL.length:Int))+(↑(((List.map tyM.elem c4).getD k.toNat undef).cells.getD 4 undef).toL.length:Int))),AV.int IntKind.i64 i,AV.ptr 1 0,AV.int IntKind.i64 k],[Blk.var [AV.lst 5 (List.map tyK.elem a0) Tl.open_,AV.lst 3 (List.map tyT.elem a1) Tl.open_],Blk.var [AV.str c0,AV.str c1,AV.lst 5 (List.map tyC.elem c2) Tl.open_,AV.lst 2 (List.map tyF.elem c3) Tl.open_,AV.lst 5 (List.map
 tyM.elem c4) Tl.open_]]))) (T.leaf ((X.normal,[AV.ptr 0 0,AV.fsl 0 [],AV.int IntKind.i64 (IntKind.i64.wrap (IntKind.i64.wrap (n+(↑(((List.map tyM.elem c4).getD k.toNat undef).cells.getD 3 undef).toL.length:Int))+(↑(((List.map tyM.elem c4).getD k.toNat undef).cells.getD 4 undef).toL.length:Int))),AV.int IntKind.i64 i,AV.ptr 1 0,AV.int IntKind.i64 (IntKind.i64.wrap (k+1))],[Blk.var
 [AV.lst 5 (List.map tyK.elem a0) Tl.open_,AV.lst 3 (List.map tyT.elem a1) Tl.open_],Blk.var [AV.str c0,AV.str c1,AV.lst 5 (List.map tyC.elem c2) Tl.open_,AV.lst 2 (List.map tyF.elem c3) Tl.open_,AV.lst 5 (List.map tyM.elem c4) Tl.open_]])))) T.fail) T.fail) (T.leaf ((X.exit 2,[AV.ptr 0 0,AV.fsl 0 [],AV.int IntKind.i64 n,AV.int IntKind.i64 i,AV.ptr 1 0,AV.int IntKind.i64 k],[Blk.var
 [AV.lst 5 (List.map tyK.elem a0) Tl.open_,AV.lst 3 (List.map tyT.elem a1) Tl.open_],Blk.var [AV.str c0,AV.str c1,AV.lst 5 (List.map tyC.elem c2) Tl.open_,AV.lst 2 (List.map tyF.elem c3) Tl.open_,AV.lst 5 (List.map tyM.elem c4) Tl.open_]])))):=by kernel_rfl
theorem p5q(a0:List tyK.I)(a1:List tyT.I)(t0:ByteArray)(t1:List tyC.I)(t2:List tyV.I)(n i k:Int):obsK (XN 5 [14,19,24,36,42,47,52,73,78,90,95,100,113]) (fun _=>none) 114 (sub (bodyOf Tryz.f5) [1,1,1,1,0,1,0,0,1,0,0,1,1,1,0,0]) [1,1,1,1,0,1,0,0,1,0,0,1,1,1,0,0] (frm [(1, .ptr 0 0),(3, .int .i64 n),(7, .int .i64 i),(8, .ptr 1 0),(9, .int .i64 k)]) [.var [encL tyK a0,encL tyT a1], .var [.str t0,encL tyC t1,encL tyV t2]] [1,2,3,7,8,9]=
 (T.br (decide (k<(↑(List.map tyV.elem t2).length:Int))) (T.br (decide ((0:Int)≤k)&&decide (k<(↑(List.map tyV.elem t2).length:Int))&&fitsC Tryz.prog (46:Nat) ((List.map tyV.elem t2).getD k.toNat undef)) (T.br (decide ((4000:Int)<IntKind.i64.wrap (n+(↑(((List.map tyV.elem t2).getD k.toNat undef).cells.getD 3 undef).toL.length:Int)))) (T.leaf ((X.ret,[AV.ptr 0 0,AV.bool
 false,AV.int IntKind.i64 (IntKind.i64.wrap (n+(↑(((List.map tyV.elem t2).getD k.toNat undef).cells.getD 3 undef).toL.length:Int))),AV.int IntKind.i64 i,AV.ptr 1 0,AV.int IntKind.i64 k],[Blk.var [AV.lst 5 (List.map tyK.elem a0) Tl.open_,AV.lst 3 (List.map tyT.elem a1) Tl.open_],Blk.var [AV.str t0,AV.lst 5 (List.map tyC.elem t1) Tl.open_,AV.lst 4 (List.map tyV.elem t2) Tl.open_]])))
 (T.leaf ((X.normal,[AV.ptr 0 0,AV.fsl 0 [],AV.int IntKind.i64 (IntKind.i64.wrap (n+(↑(((List.map tyV.elem t2).getD k.toNat undef).cells.getD 3 undef).toL.length:Int))),AV.int IntKind.i64 i,AV.ptr 1 0,AV.int IntKind.i64 (IntKind.i64.wrap (k+1))],[Blk.var [AV.lst 5 (List.map tyK.elem a0) Tl.open_,AV.lst 3 (List.map tyT.elem a1) Tl.open_],Blk.var [AV.str t0,AV.lst 5 (List.map tyC.elem
 t1) Tl.open_,AV.lst 4 (List.map tyV.elem t2) Tl.open_]])))) T.fail) (T.leaf ((X.exit 6,[AV.ptr 0 0,AV.fsl 0 [],AV.int IntKind.i64 n,AV.int IntKind.i64 i,AV.ptr 1 0,AV.int IntKind.i64 k],[Blk.var [AV.lst 5 (List.map tyK.elem a0) Tl.open_,AV.lst 3 (List.map tyT.elem a1) Tl.open_],Blk.var [AV.str t0,AV.lst 5 (List.map tyC.elem t1) Tl.open_,AV.lst 4 (List.map tyV.elem t2) Tl.open_]])))):=by kernel_rfl
theorem p5on(a0:List tyK.I)(a1:List tyT.I)(c0 c1:ByteArray)(c2:List tyC.I)(c3:List tyF.I)(c4:List tyM.I)(n i m:Int):obsK (XN 5 [14,19,24,36,42,47,52,73,78,90,95,100,113]) (kAt [1,1,1,0,1,0,0,1,0,0,1,1,1] (st5i i 0 n) [.var [encL tyK a0,encL tyT a1], .var [.str c0, .str c1,encL tyC c2,encL tyF c3,encL tyM c4]] .normal [(1, .ptr 0 0),(3, .int .i64 m),(4, .int .i64 i)] [.var [encL tyK a0,encL tyT a1], .var [.str c0, .str c1,encL tyC c2,encL tyF c3,encL tyM c4]]) 114 (sub (bodyOf Tryz.f5) [1,1,1,0,1,0,0]) [1,1,1,0,1,0,0] (frm [(1, .ptr 0 0),(3, .int .i64 n),(4, .int .i64 i)]) [.var [encL tyK a0,encL tyT a1]] [1,2,3,4]=
 ((fun(s0:T (X×List AV×H))=>((fun(s1:T (X×List AV×H))=>((fun(s2:T (X×List AV×H))=>((fun(s3:T (X×List AV×H))=>(T.br (decide (i<(↑(List.map tyK.elem a0).length:Int))) (T.br (decide ((0:Int)≤i)&&decide (i<(↑(List.map tyK.elem a0).length:Int))&&fitsC Tryz.prog (37:Nat) ((List.map tyK.elem a0).getD i.toNat undef)) (T.br (decide ((300:Int)<
 (↑(((List.map tyK.elem a0).getD i.toNat undef).cells.getD 2 undef).toL.length:Int))) (T.br true (T.br true s1 s2) s3) (T.br (decide ((40:Int)<(↑(((List.map tyK.elem a0).getD i.toNat undef).cells.getD 3 undef).toL.length:Int))) (T.br true s1 s2) s3)) T.fail) (T.leaf ((X.exit 0,[AV.ptr 0 0,AV.fsl 0 [],AV.int IntKind.i64 n,AV.int IntKind.i64 i],[Blk.var [AV.lst 5 (List.map tyK.elem a0)
 Tl.open_,AV.lst 3 (List.map tyT.elem a1) Tl.open_]]))))) (T.br (decide ((40:Int)<(↑(((List.map tyK.elem a0).getD i.toNat undef).cells.getD 4 undef).toL.length:Int))) s1 s2))) (T.br (askS [AV.ptr 0 (0:Nat),AV.int IntKind.i64 n,AV.int IntKind.i64 i,AV.ptr 1 (0:Nat),AV.int IntKind.i64 (0:Int)] [AV.ptr 0 (0:Nat),AV.int IntKind.i64 n,AV.int IntKind.i64 i,AV.ptr 1 (0:Nat),AV.int
 IntKind.i64 (↑(0:Nat):Int)] [Blk.var [AV.lst 5 (List.map tyK.elem a0) Tl.open_,AV.lst 3 (List.map tyT.elem a1) Tl.open_],Blk.var [AV.str (((List.map tyK.elem a0).getD i.toNat undef).cells.getD 0 undef).toS,AV.str (((List.map tyK.elem a0).getD i.toNat undef).cells.getD 1 undef).toS,AV.lst 5 (((List.map tyK.elem a0).getD i.toNat undef).cells.getD 2 undef).toL Tl.open_,AV.lst 2 (((List.map
 tyK.elem a0).getD i.toNat undef).cells.getD 3 undef).toL Tl.open_,AV.lst 5 (((List.map tyK.elem a0).getD i.toNat undef).cells.getD 4 undef).toL Tl.open_]] [Blk.var [AV.lst 5 (List.map tyK.elem a0) Tl.open_,AV.lst 3 (List.map tyT.elem a1) Tl.open_],Blk.var [AV.str c0,AV.str c1,AV.lst 5 (List.map tyC.elem c2) Tl.open_,AV.lst 2 (List.map tyF.elem c3) Tl.open_,AV.lst 5 (List.map tyM.elem c4)
 Tl.open_]]) s0 T.fail))) (T.leaf ((X.ret,[AV.ptr 0 0,AV.bool false,AV.int IntKind.i64 n,AV.int IntKind.i64 i],[Blk.var [AV.lst 5 (List.map tyK.elem a0) Tl.open_,AV.lst 3 (List.map tyT.elem a1) Tl.open_],Blk.var [AV.str (((List.map tyK.elem a0).getD i.toNat undef).cells.getD 0 undef).toS,AV.str (((List.map tyK.elem a0).getD i.toNat undef).cells.getD 1 undef).toS,AV.lst 5 (((List.map
 tyK.elem a0).getD i.toNat undef).cells.getD 2 undef).toL Tl.open_,AV.lst 2 (((List.map tyK.elem a0).getD i.toNat undef).cells.getD 3 undef).toL Tl.open_,AV.lst 5 (((List.map tyK.elem a0).getD i.toNat undef).cells.getD 4 undef).toL Tl.open_]]))))) (T.leaf ((X.normal,[AV.ptr 0 0,AV.fsl 0 [],AV.int IntKind.i64 m,AV.int IntKind.i64 (IntKind.i64.wrap (i+1))],[Blk.var [AV.lst 5 (List.map
 tyK.elem a0) Tl.open_,AV.lst 3 (List.map tyT.elem a1) Tl.open_],Blk.var [AV.str c0,AV.str c1,AV.lst 5 (List.map tyC.elem c2) Tl.open_,AV.lst 2 (List.map tyF.elem c3) Tl.open_,AV.lst 5 (List.map tyM.elem c4) Tl.open_]])))):=by kernel_rfl
theorem p5or(a0:List tyK.I)(a1:List tyT.I)(c0 c1:ByteArray)(c2:List tyC.I)(c3:List tyF.I)(c4:List tyM.I)(n i:Int):obsK (XN 5 [14,19,24,36,42,47,52,73,78,90,95,100,113]) (kAt [1,1,1,0,1,0,0,1,0,0,1,1,1] (st5i i 0 n) [.var [encL tyK a0,encL tyT a1], .var [.str c0, .str c1,encL tyC c2,encL tyF c3,encL tyM c4]] .ret [(2, .bool false)] [.var [encL tyK a0,encL tyT a1], .var [.str c0, .str c1,encL tyC c2,encL tyF c3,encL tyM c4]]) 114 (sub (bodyOf Tryz.f5) [1,1,1,0,1,0,0]) [1,1,1,0,1,0,0] (frm [(1, .ptr 0 0),(3, .int .i64 n),(4, .int .i64 i)]) [.var [encL tyK a0,encL tyT a1]] [1,2,3,4]=
 ((fun(s0:T (X×List AV×H))=>((fun(s1:T (X×List AV×H))=>((fun(s2:T (X×List AV×H))=>((fun(s3:T (X×List AV×H))=>(T.br (decide (i<(↑(List.map tyK.elem a0).length:Int))) (T.br (decide ((0:Int)≤i)&&decide (i<(↑(List.map tyK.elem a0).length:Int))&&fitsC Tryz.prog (37:Nat) ((List.map tyK.elem a0).getD i.toNat undef)) (T.br (decide ((300:Int)<
 (↑(((List.map tyK.elem a0).getD i.toNat undef).cells.getD 2 undef).toL.length:Int))) (T.br true (T.br true s1 s2) s3) (T.br (decide ((40:Int)<(↑(((List.map tyK.elem a0).getD i.toNat undef).cells.getD 3 undef).toL.length:Int))) (T.br true s1 s2) s3)) T.fail) (T.leaf ((X.exit 0,[AV.ptr 0 0,AV.fsl 0 [],AV.int IntKind.i64 n,AV.int IntKind.i64 i],[Blk.var [AV.lst 5 (List.map tyK.elem a0)
 Tl.open_,AV.lst 3 (List.map tyT.elem a1) Tl.open_]]))))) (T.br (decide ((40:Int)<(↑(((List.map tyK.elem a0).getD i.toNat undef).cells.getD 4 undef).toL.length:Int))) s1 s2))) (T.br (askS [AV.ptr 0 (0:Nat),AV.int IntKind.i64 n,AV.int IntKind.i64 i,AV.ptr 1 (0:Nat),AV.int IntKind.i64 (0:Int)] [AV.ptr 0 (0:Nat),AV.int IntKind.i64 n,AV.int IntKind.i64 i,AV.ptr 1 (0:Nat),AV.int
 IntKind.i64 (↑(0:Nat):Int)] [Blk.var [AV.lst 5 (List.map tyK.elem a0) Tl.open_,AV.lst 3 (List.map tyT.elem a1) Tl.open_],Blk.var [AV.str (((List.map tyK.elem a0).getD i.toNat undef).cells.getD 0 undef).toS,AV.str (((List.map tyK.elem a0).getD i.toNat undef).cells.getD 1 undef).toS,AV.lst 5 (((List.map tyK.elem a0).getD i.toNat undef).cells.getD 2 undef).toL Tl.open_,AV.lst 2 (((List.map
 tyK.elem a0).getD i.toNat undef).cells.getD 3 undef).toL Tl.open_,AV.lst 5 (((List.map tyK.elem a0).getD i.toNat undef).cells.getD 4 undef).toL Tl.open_]] [Blk.var [AV.lst 5 (List.map tyK.elem a0) Tl.open_,AV.lst 3 (List.map tyT.elem a1) Tl.open_],Blk.var [AV.str c0,AV.str c1,AV.lst 5 (List.map tyC.elem c2) Tl.open_,AV.lst 2 (List.map tyF.elem c3) Tl.open_,AV.lst 5 (List.map tyM.elem c4)
 Tl.open_]]) s0 T.fail))) (T.leaf ((X.ret,[AV.ptr 0 0,AV.bool false,AV.int IntKind.i64 n,AV.int IntKind.i64 i],[Blk.var [AV.lst 5 (List.map tyK.elem a0) Tl.open_,AV.lst 3 (List.map tyT.elem a1) Tl.open_],Blk.var [AV.str (((List.map tyK.elem a0).getD i.toNat undef).cells.getD 0 undef).toS,AV.str (((List.map tyK.elem a0).getD i.toNat undef).cells.getD 1 undef).toS,AV.lst 5 (((List.map
 tyK.elem a0).getD i.toNat undef).cells.getD 2 undef).toL Tl.open_,AV.lst 2 (((List.map tyK.elem a0).getD i.toNat undef).cells.getD 3 undef).toL Tl.open_,AV.lst 5 (((List.map tyK.elem a0).getD i.toNat undef).cells.getD 4 undef).toL Tl.open_]]))))) (T.leaf ((X.ret,[AV.fsl 0 [],AV.bool false,AV.fsl 0 [],AV.fsl 0 []],[Blk.var [AV.lst 5 (List.map tyK.elem a0) Tl.open_,AV.lst 3 (List.map tyT.elem
 a1) Tl.open_],Blk.var [AV.str c0,AV.str c1,AV.lst 5 (List.map tyC.elem c2) Tl.open_,AV.lst 2 (List.map tyF.elem c3) Tl.open_,AV.lst 5 (List.map tyM.elem c4) Tl.open_]])))):=by kernel_rfl
theorem p5pn(a0:List tyK.I)(a1:List tyT.I)(t0:ByteArray)(t1:List tyC.I)(t2:List tyV.I)(n i m:Int):obsK (XN 5 [14,19,24,36,42,47,52,73,78,90,95,100,113]) (kAt [1,1,1,1,0,1,0,0,1,0,0,1,1,1] (st5q i 0 n) [.var [encL tyK a0,encL tyT a1], .var [.str t0,encL tyC t1,encL tyV t2]] .normal [(1, .ptr 0 0),(3, .int .i64 m),(7, .int .i64 i)] [.var [encL tyK a0,encL tyT a1], .var [.str t0,encL tyC t1,encL tyV t2]]) 114 (sub (bodyOf Tryz.f5) [1,1,1,1,0,1,0,0]) [1,1,1,1,0,1,0,0] (frm [(1, .ptr 0 0),(3, .int .i64 n),(7, .int .i64 i)]) [.var [encL tyK a0,encL tyT a1]] [1,2,3,7]=
 ((fun(s0:T (X×List AV×H))=>((fun(s1:T (X×List AV×H))=>((fun(s2:T (X×List AV×H))=>(T.br (decide (i<(↑(List.map tyT.elem a1).length:Int))) (T.br (decide ((0:Int)≤i)&&decide (i<(↑(List.map tyT.elem a1).length:Int))&&fitsC Tryz.prog (44:Nat) ((List.map tyT.elem a1).getD i.toNat undef)) (T.br (decide ((300:Int)<(↑(((List.map tyT.elem a1).getD i.toNat
 undef).cells.getD 1 undef).toL.length:Int))) (T.br true s1 s2) (T.br (decide ((40:Int)<(↑(((List.map tyT.elem a1).getD i.toNat undef).cells.getD 2 undef).toL.length:Int))) s1 s2)) T.fail) (T.leaf ((X.exit 4,[AV.ptr 0 0,AV.fsl 0 [],AV.int IntKind.i64 n,AV.int IntKind.i64 i],[Blk.var [AV.lst 5 (List.map tyK.elem a0) Tl.open_,AV.lst 3 (List.map tyT.elem a1) Tl.open_]]))))) (T.br (askS
 [AV.ptr 0 (0:Nat),AV.int IntKind.i64 n,AV.int IntKind.i64 i,AV.ptr 1 (0:Nat),AV.int IntKind.i64 (0:Int)] [AV.ptr 0 (0:Nat),AV.int IntKind.i64 n,AV.int IntKind.i64 i,AV.ptr 1 (0:Nat),AV.int IntKind.i64 (↑(0:Nat):Int)] [Blk.var [AV.lst 5 (List.map tyK.elem a0) Tl.open_,AV.lst 3 (List.map tyT.elem a1) Tl.open_],Blk.var [AV.str (((List.map tyT.elem a1).getD i.toNat
 undef).cells.getD 0 undef).toS,AV.lst 5 (((List.map tyT.elem a1).getD i.toNat undef).cells.getD 1 undef).toL Tl.open_,AV.lst 4 (((List.map tyT.elem a1).getD i.toNat undef).cells.getD 2 undef).toL Tl.open_]] [Blk.var [AV.lst 5 (List.map tyK.elem a0) Tl.open_,AV.lst 3 (List.map tyT.elem a1) Tl.open_],Blk.var [AV.str t0,AV.lst 5 (List.map tyC.elem t1) Tl.open_,AV.lst 4 (List.map tyV.elem t2)
 Tl.open_]]) s0 T.fail))) (T.leaf ((X.ret,[AV.ptr 0 0,AV.bool false,AV.int IntKind.i64 n,AV.int IntKind.i64 i],[Blk.var [AV.lst 5 (List.map tyK.elem a0) Tl.open_,AV.lst 3 (List.map tyT.elem a1) Tl.open_],Blk.var [AV.str (((List.map tyT.elem a1).getD i.toNat undef).cells.getD 0 undef).toS,AV.lst 5 (((List.map tyT.elem a1).getD i.toNat undef).cells.getD 1 undef).toL Tl.open_,AV.lst 4
 (((List.map tyT.elem a1).getD i.toNat undef).cells.getD 2 undef).toL Tl.open_]]))))) (T.leaf ((X.normal,[AV.ptr 0 0,AV.fsl 0 [],AV.int IntKind.i64 m,AV.int IntKind.i64 (IntKind.i64.wrap (i+1))],[Blk.var [AV.lst 5 (List.map tyK.elem a0) Tl.open_,AV.lst 3 (List.map tyT.elem a1) Tl.open_],Blk.var [AV.str t0,AV.lst 5 (List.map tyC.elem t1) Tl.open_,AV.lst 4 (List.map tyV.elem t2)
 Tl.open_]])))):=by kernel_rfl
theorem p5pr(a0:List tyK.I)(a1:List tyT.I)(t0:ByteArray)(t1:List tyC.I)(t2:List tyV.I)(n i:Int):obsK (XN 5 [14,19,24,36,42,47,52,73,78,90,95,100,113]) (kAt [1,1,1,1,0,1,0,0,1,0,0,1,1,1] (st5q i 0 n) [.var [encL tyK a0,encL tyT a1], .var [.str t0,encL tyC t1,encL tyV t2]] .ret [(2, .bool false)] [.var [encL tyK a0,encL tyT a1], .var [.str t0,encL tyC t1,encL tyV t2]]) 114 (sub (bodyOf Tryz.f5) [1,1,1,1,0,1,0,0]) [1,1,1,1,0,1,0,0] (frm [(1, .ptr 0 0),(3, .int .i64 n),(7, .int .i64 i)]) [.var [encL tyK a0,encL tyT a1]] [1,2,3,7]=
 ((fun(s0:T (X×List AV×H))=>((fun(s1:T (X×List AV×H))=>((fun(s2:T (X×List AV×H))=>(T.br (decide (i<(↑(List.map tyT.elem a1).length:Int))) (T.br (decide ((0:Int)≤i)&&decide (i<(↑(List.map tyT.elem a1).length:Int))&&fitsC Tryz.prog (44:Nat) ((List.map tyT.elem a1).getD i.toNat undef)) (T.br (decide ((300:Int)<(↑(((List.map tyT.elem a1).getD i.toNat
 undef).cells.getD 1 undef).toL.length:Int))) (T.br true s1 s2) (T.br (decide ((40:Int)<(↑(((List.map tyT.elem a1).getD i.toNat undef).cells.getD 2 undef).toL.length:Int))) s1 s2)) T.fail) (T.leaf ((X.exit 4,[AV.ptr 0 0,AV.fsl 0 [],AV.int IntKind.i64 n,AV.int IntKind.i64 i],[Blk.var [AV.lst 5 (List.map tyK.elem a0) Tl.open_,AV.lst 3 (List.map tyT.elem a1) Tl.open_]]))))) (T.br (askS
 [AV.ptr 0 (0:Nat),AV.int IntKind.i64 n,AV.int IntKind.i64 i,AV.ptr 1 (0:Nat),AV.int IntKind.i64 (0:Int)] [AV.ptr 0 (0:Nat),AV.int IntKind.i64 n,AV.int IntKind.i64 i,AV.ptr 1 (0:Nat),AV.int IntKind.i64 (↑(0:Nat):Int)] [Blk.var [AV.lst 5 (List.map tyK.elem a0) Tl.open_,AV.lst 3 (List.map tyT.elem a1) Tl.open_],Blk.var [AV.str (((List.map tyT.elem a1).getD i.toNat
 undef).cells.getD 0 undef).toS,AV.lst 5 (((List.map tyT.elem a1).getD i.toNat undef).cells.getD 1 undef).toL Tl.open_,AV.lst 4 (((List.map tyT.elem a1).getD i.toNat undef).cells.getD 2 undef).toL Tl.open_]] [Blk.var [AV.lst 5 (List.map tyK.elem a0) Tl.open_,AV.lst 3 (List.map tyT.elem a1) Tl.open_],Blk.var [AV.str t0,AV.lst 5 (List.map tyC.elem t1) Tl.open_,AV.lst 4 (List.map tyV.elem t2)
 Tl.open_]]) s0 T.fail))) (T.leaf ((X.ret,[AV.ptr 0 0,AV.bool false,AV.int IntKind.i64 n,AV.int IntKind.i64 i],[Blk.var [AV.lst 5 (List.map tyK.elem a0) Tl.open_,AV.lst 3 (List.map tyT.elem a1) Tl.open_],Blk.var [AV.str (((List.map tyT.elem a1).getD i.toNat undef).cells.getD 0 undef).toS,AV.lst 5 (((List.map tyT.elem a1).getD i.toNat undef).cells.getD 1 undef).toL Tl.open_,AV.lst 4
 (((List.map tyT.elem a1).getD i.toNat undef).cells.getD 2 undef).toL Tl.open_]]))))) (T.leaf ((X.ret,[AV.fsl 0 [],AV.bool false,AV.fsl 0 [],AV.fsl 0 []],[Blk.var [AV.lst 5 (List.map tyK.elem a0) Tl.open_,AV.lst 3 (List.map tyT.elem a1) Tl.open_],Blk.var [AV.str t0,AV.lst 5 (List.map tyC.elem t1) Tl.open_,AV.lst 4 (List.map tyV.elem t2) Tl.open_]])))):=by kernel_rfl
theorem p5ox(a0:List tyK.I)(a1:List tyT.I)(n i:Int):obsK (XN 5 [14,19,24,36,42,47,52,73,78,90,95,100,113]) (kNo [1,1,1,0,1,0,0,1,0,0,1,1,1]) 114 (sub (bodyOf Tryz.f5) [1,1,1,0,1,0,0]) [1,1,1,0,1,0,0] (frm [(1, .ptr 0 0),(3, .int .i64 n),(4, .int .i64 i)]) [.var [encL tyK a0,encL tyT a1]] [1,2,3,4]=
 ((fun(s0:T (X×List AV×H))=>((fun(s1:T (X×List AV×H))=>(T.br (decide (i<(↑(List.map tyK.elem a0).length:Int))) (T.br (decide ((0:Int)≤i)&&decide (i<(↑(List.map tyK.elem a0).length:Int))&&fitsC Tryz.prog (37:Nat) ((List.map tyK.elem a0).getD i.toNat undef)) (T.br (decide ((300:Int)<(↑(((List.map tyK.elem a0).getD i.toNat undef).cells.getD 2 undef).toL.length:
 Int))) (T.br true (T.br true s0 T.fail) s1) (T.br (decide ((40:Int)<(↑(((List.map tyK.elem a0).getD i.toNat undef).cells.getD 3 undef).toL.length:Int))) (T.br true s0 T.fail) s1)) T.fail) (T.leaf ((X.exit 0,[AV.ptr 0 0,AV.fsl 0 [],AV.int IntKind.i64 n,AV.int IntKind.i64 i],[Blk.var [AV.lst 5 (List.map tyK.elem a0) Tl.open_,AV.lst 3 (List.map tyT.elem a1) Tl.open_]]))))) (T.br (decide
 ((40:Int)<(↑(((List.map tyK.elem a0).getD i.toNat undef).cells.getD 4 undef).toL.length:Int))) s0 T.fail))) (T.leaf ((X.ret,[AV.ptr 0 0,AV.bool false,AV.int IntKind.i64 n,AV.int IntKind.i64 i],[Blk.var [AV.lst 5 (List.map tyK.elem a0) Tl.open_,AV.lst 3 (List.map tyT.elem a1) Tl.open_],Blk.var [AV.str (((List.map tyK.elem a0).getD i.toNat undef).cells.getD 0 undef).toS,AV.str
 (((List.map tyK.elem a0).getD i.toNat undef).cells.getD 1 undef).toS,AV.lst 5 (((List.map tyK.elem a0).getD i.toNat undef).cells.getD 2 undef).toL Tl.open_,AV.lst 2 (((List.map tyK.elem a0).getD i.toNat undef).cells.getD 3 undef).toL Tl.open_,AV.lst 5 (((List.map tyK.elem a0).getD i.toNat undef).cells.getD 4 undef).toL Tl.open_]])))):=by kernel_rfl
theorem p5px(a0:List tyK.I)(a1:List tyT.I)(n i:Int):obsK (XN 5 [14,19,24,36,42,47,52,73,78,90,95,100,113]) (kNo [1,1,1,1,0,1,0,0,1,0,0,1,1,1]) 114 (sub (bodyOf Tryz.f5) [1,1,1,1,0,1,0,0]) [1,1,1,1,0,1,0,0] (frm [(1, .ptr 0 0),(3, .int .i64 n),(7, .int .i64 i)]) [.var [encL tyK a0,encL tyT a1]] [1,2,3,7]=
 (T.br (decide (i<(↑(List.map tyT.elem a1).length:Int))) (T.br (decide ((0:Int)≤i)&&decide (i<(↑(List.map tyT.elem a1).length:Int))&&fitsC Tryz.prog (44:Nat) ((List.map tyT.elem a1).getD i.toNat undef)) (T.br (decide ((300:Int)<(↑(((List.map tyT.elem a1).getD i.toNat undef).cells.getD 1 undef).toL.length:Int))) (T.br true (T.leaf ((X.ret,[AV.ptr 0 0,AV.bool false,AV.int
 IntKind.i64 n,AV.int IntKind.i64 i],[Blk.var [AV.lst 5 (List.map tyK.elem a0) Tl.open_,AV.lst 3 (List.map tyT.elem a1) Tl.open_],Blk.var [AV.str (((List.map tyT.elem a1).getD i.toNat undef).cells.getD 0 undef).toS,AV.lst 5 (((List.map tyT.elem a1).getD i.toNat undef).cells.getD 1 undef).toL Tl.open_,AV.lst 4 (((List.map tyT.elem a1).getD i.toNat undef).cells.getD 2 undef).toL Tl.open_]])))
 T.fail) (T.br (decide ((40:Int)<(↑(((List.map tyT.elem a1).getD i.toNat undef).cells.getD 2 undef).toL.length:Int))) (T.leaf ((X.ret,[AV.ptr 0 0,AV.bool false,AV.int IntKind.i64 n,AV.int IntKind.i64 i],[Blk.var [AV.lst 5 (List.map tyK.elem a0) Tl.open_,AV.lst 3 (List.map tyT.elem a1) Tl.open_],Blk.var [AV.str (((List.map tyT.elem a1).getD i.toNat undef).cells.getD 0 undef).toS,AV.lst
 5 (((List.map tyT.elem a1).getD i.toNat undef).cells.getD 1 undef).toL Tl.open_,AV.lst 4 (((List.map tyT.elem a1).getD i.toNat undef).cells.getD 2 undef).toL Tl.open_]]))) T.fail)) T.fail) (T.leaf ((X.exit 4,[AV.ptr 0 0,AV.fsl 0 [],AV.int IntKind.i64 n,AV.int IntKind.i64 i],[Blk.var [AV.lst 5 (List.map tyK.elem a0) Tl.open_,AV.lst 3 (List.map tyT.elem a1) Tl.open_]])))):=by kernel_rfl
theorem p5nn(a0:List tyK.I)(a1:List tyT.I)(n m:Int):runV (XN 5 [14,19,24,36,42,47,52,73,78,90,95,100,113]) (kTwo (kAt [1,1,1,0,1] (st5o 0 0) [.var [encL tyK a0,encL tyT a1]] .normal [(1, .ptr 0 0),(3, .int .i64 n)] [.var [encL tyK a0,encL tyT a1]]) (kAt [1,1,1,1,0,1] (st5p 0 n) [.var [encL tyK a0,encL tyT a1]] .normal [(1, .ptr 0 0),(3, .int .i64 m)] [.var [encL tyK a0,encL tyT a1]])) Tryz.f5 (bodyOf Tryz.f5) [.agg [encL tyK a0,encL tyT a1]]=
 (T.br (decide ((40:Int)<(↑(List.map tyK.elem a0).length:Int))) (T.br true (T.leaf (AV.bool false)) (T.br (askS [AV.ptr 0 (0:Nat),AV.int IntKind.i64 (0:Int),AV.int IntKind.i64 (0:Int)] [AV.ptr 0 (0:Nat),AV.int IntKind.i64 (0:Int),AV.int IntKind.i64 (↑(0:Nat):Int)] [Blk.var [AV.lst 5 (List.map tyK.elem a0) Tl.open_,AV.lst 3 (List.map tyT.elem a1) Tl.open_]] [Blk.var [AV.lst 5
 (List.map tyK.elem a0) Tl.open_,AV.lst 3 (List.map tyT.elem a1) Tl.open_]]) (T.br (askS [AV.ptr 0 (0:Nat),AV.int IntKind.i64 n,AV.int IntKind.i64 (0:Int)] [AV.ptr 0 (0:Nat),AV.int IntKind.i64 n,AV.int IntKind.i64 (↑(0:Nat):Int)] [Blk.var [AV.lst 5 (List.map tyK.elem a0) Tl.open_,AV.lst 3 (List.map tyT.elem a1) Tl.open_]] [Blk.var [AV.lst 5 (List.map tyK.elem a0) Tl.open_,AV.lst 3
 (List.map tyT.elem a1) Tl.open_]]) (T.leaf (AV.bool true)) T.fail) T.fail)) (T.br (decide ((40:Int)<(↑(List.map tyT.elem a1).length:Int))) (T.leaf (AV.bool false)) (T.br (askS [AV.ptr 0 (0:Nat),AV.int IntKind.i64 (0:Int),AV.int IntKind.i64 (0:Int)] [AV.ptr 0 (0:Nat),AV.int IntKind.i64 (0:Int),AV.int IntKind.i64 (↑(0:Nat):Int)] [Blk.var [AV.lst 5 (List.map tyK.elem a0)
 Tl.open_,AV.lst 3 (List.map tyT.elem a1) Tl.open_]] [Blk.var [AV.lst 5 (List.map tyK.elem a0) Tl.open_,AV.lst 3 (List.map tyT.elem a1) Tl.open_]]) (T.br (askS [AV.ptr 0 (0:Nat),AV.int IntKind.i64 n,AV.int IntKind.i64 (0:Int)] [AV.ptr 0 (0:Nat),AV.int IntKind.i64 n,AV.int IntKind.i64 (↑(0:Nat):Int)] [Blk.var [AV.lst 5 (List.map tyK.elem a0) Tl.open_,AV.lst 3 (List.map tyT.elem a1)
 Tl.open_]] [Blk.var [AV.lst 5 (List.map tyK.elem a0) Tl.open_,AV.lst 3 (List.map tyT.elem a1) Tl.open_]]) (T.leaf (AV.bool true)) T.fail) T.fail))):=by kernel_rfl
theorem p5nr(a0:List tyK.I)(a1:List tyT.I)(n:Int):runV (XN 5 [14,19,24,36,42,47,52,73,78,90,95,100,113]) (kTwo (kAt [1,1,1,0,1] (st5o 0 0) [.var [encL tyK a0,encL tyT a1]] .normal [(1, .ptr 0 0),(3, .int .i64 n)] [.var [encL tyK a0,encL tyT a1]]) (kAt [1,1,1,1,0,1] (st5p 0 n) [.var [encL tyK a0,encL tyT a1]] .ret [(2, .bool false)] [.var [encL tyK a0,encL tyT a1]])) Tryz.f5 (bodyOf Tryz.f5) [.agg [encL tyK a0,encL tyT a1]]=
 (T.br (decide ((40:Int)<(↑(List.map tyK.elem a0).length:Int))) (T.br true (T.leaf (AV.bool false)) (T.br (askS [AV.ptr 0 (0:Nat),AV.int IntKind.i64 (0:Int),AV.int IntKind.i64 (0:Int)] [AV.ptr 0 (0:Nat),AV.int IntKind.i64 (0:Int),AV.int IntKind.i64 (↑(0:Nat):Int)] [Blk.var [AV.lst 5 (List.map tyK.elem a0) Tl.open_,AV.lst 3 (List.map tyT.elem a1) Tl.open_]] [Blk.var [AV.lst 5
 (List.map tyK.elem a0) Tl.open_,AV.lst 3 (List.map tyT.elem a1) Tl.open_]]) (T.br (askS [AV.ptr 0 (0:Nat),AV.int IntKind.i64 n,AV.int IntKind.i64 (0:Int)] [AV.ptr 0 (0:Nat),AV.int IntKind.i64 n,AV.int IntKind.i64 (↑(0:Nat):Int)] [Blk.var [AV.lst 5 (List.map tyK.elem a0) Tl.open_,AV.lst 3 (List.map tyT.elem a1) Tl.open_]] [Blk.var [AV.lst 5 (List.map tyK.elem a0) Tl.open_,AV.lst 3
 (List.map tyT.elem a1) Tl.open_]]) (T.leaf (AV.bool false)) T.fail) T.fail)) (T.br (decide ((40:Int)<(↑(List.map tyT.elem a1).length:Int))) (T.leaf (AV.bool false)) (T.br (askS [AV.ptr 0 (0:Nat),AV.int IntKind.i64 (0:Int),AV.int IntKind.i64 (0:Int)] [AV.ptr 0 (0:Nat),AV.int IntKind.i64 (0:Int),AV.int IntKind.i64 (↑(0:Nat):Int)] [Blk.var [AV.lst 5 (List.map tyK.elem a0)
 Tl.open_,AV.lst 3 (List.map tyT.elem a1) Tl.open_]] [Blk.var [AV.lst 5 (List.map tyK.elem a0) Tl.open_,AV.lst 3 (List.map tyT.elem a1) Tl.open_]]) (T.br (askS [AV.ptr 0 (0:Nat),AV.int IntKind.i64 n,AV.int IntKind.i64 (0:Int)] [AV.ptr 0 (0:Nat),AV.int IntKind.i64 n,AV.int IntKind.i64 (↑(0:Nat):Int)] [Blk.var [AV.lst 5 (List.map tyK.elem a0) Tl.open_,AV.lst 3 (List.map tyT.elem a1)
 Tl.open_]] [Blk.var [AV.lst 5 (List.map tyK.elem a0) Tl.open_,AV.lst 3 (List.map tyT.elem a1) Tl.open_]]) (T.leaf (AV.bool false)) T.fail) T.fail))):=by kernel_rfl
theorem p5r(a0:List tyK.I)(a1:List tyT.I):runV (XN 5 [14,19,24,36,42,47,52,73,78,90,95,100,113]) (kTwo (kAt [1,1,1,0,1] (st5o 0 0) [.var [encL tyK a0,encL tyT a1]] .ret [(2, .bool false)] [.var [encL tyK a0,encL tyT a1]]) (kNo [1,1,1,1,0,1])) Tryz.f5 (bodyOf Tryz.f5) [.agg [encL tyK a0,encL tyT a1]]=
 (T.br (decide ((40:Int)<(↑(List.map tyK.elem a0).length:Int))) (T.br true (T.leaf (AV.bool false)) (T.br (askS [AV.ptr 0 (0:Nat),AV.int IntKind.i64 (0:Int),AV.int IntKind.i64 (0:Int)] [AV.ptr 0 (0:Nat),AV.int IntKind.i64 (0:Int),AV.int IntKind.i64 (↑(0:Nat):Int)] [Blk.var [AV.lst 5 (List.map tyK.elem a0) Tl.open_,AV.lst 3 (List.map tyT.elem a1) Tl.open_]] [Blk.var [AV.lst 5
 (List.map tyK.elem a0) Tl.open_,AV.lst 3 (List.map tyT.elem a1) Tl.open_]]) (T.leaf (AV.bool false)) T.fail)) (T.br (decide ((40:Int)<(↑(List.map tyT.elem a1).length:Int))) (T.leaf (AV.bool false)) (T.br (askS [AV.ptr 0 (0:Nat),AV.int IntKind.i64 (0:Int),AV.int IntKind.i64 (0:Int)] [AV.ptr 0 (0:Nat),AV.int IntKind.i64 (0:Int),AV.int IntKind.i64 (↑(0:Nat):Int)] [Blk.var
 [AV.lst 5 (List.map tyK.elem a0) Tl.open_,AV.lst 3 (List.map tyT.elem a1) Tl.open_]] [Blk.var [AV.lst 5 (List.map tyK.elem a0) Tl.open_,AV.lst 3 (List.map tyT.elem a1) Tl.open_]]) (T.leaf (AV.bool false)) T.fail))):=by kernel_rfl
def hm5(a0:List tyK.I)(a1:List tyT.I):H:= [.var [encL tyK a0,encL tyT a1]]
def hi5i(a0:List tyK.I)(a1:List tyT.I)(c0 c1:ByteArray)(c2:List tyC.I)(c3:List tyF.I)(c4:List tyM.I):H:= [.var [encL tyK a0,encL tyT a1], .var [.str c0, .str c1,encL tyC c2,encL tyF c3,encL tyM c4]]
theorem go5i(a0:List tyK.I)(a1:List tyT.I)(c0 c1:ByteArray)(c2:List tyC.I)(c3:List tyF.I)(c4:List tyM.I)(i:Int)(hl:c4.length<1000000000000000)(k:Nat)(n:Int)(hk:k<c4.length):
  (∃n',Tri E0 114 [] (sub (bodyOf Tryz.f5) [1,1,1,0,1,0,0,1,0,0,1,1,1,0,0]) (frm (st5i i k n)) (hi5i a0 a1 c0 c1 c2 c3 c4) .normal (frm (st5i i (k+1) n')) (hi5i a0 a1 c0 c1 c2 c3 c4))∨Tri E0 114 [] (sub (bodyOf Tryz.f5) [1,1,1,0,1,0,0,1,0,0,1,1,1,0,0]) (frm (st5i i k n)) (hi5i a0 a1 c0 c1 c2 c3 c4) .ret (frm [(2, .bool false)]) (hi5i a0 a1 c0 c1 c2 c3 c4):=by
 have ht:=p5i a0 a1 c0 c1 c2 c3 c4 n i k
 have f0:fitsC Tryz.prog 41 (tyM.elem tyM.zero)=true:=by kernel_rfl
 rw[idx_ok hk f0,lt_ok hk,Int.toNat_natCast,getD_elem hk,wrap_next (by omega)]at ht;generalize hu:decide ((4000:Int)<IntKind.i64.wrap (IntKind.i64.wrap (n+((((tyM.elem (c4.getD k tyM.zero)).cells.getD 3 undef).toL.length:Nat):Int))+((((tyM.elem (c4.getD k tyM.zero)).cells.getD 4 undef).toL.length:Nat):Int)))=u at ht
 cases u with
 |true=>exact .inr (Tri.seen (X:=XN 5 [14,19,24,36,42,47,52,73,78,90,95,100,113]) g0 (noCalls fun _ _ _=>rfl) KOK.none rfl (congrArg T.run ht) (by
   intro q hq;simp only[List.mem_cons,List.not_mem_nil,or_false]at hq
   rcases hq with rfl;rfl))
 |false=>exact .inl ⟨_,Tri.seen (X:=XN 5 [14,19,24,36,42,47,52,73,78,90,95,100,113]) g0 (noCalls fun _ _ _=>rfl) KOK.none rfl (congrArg T.run ht) (by
   intro q hq;simp only[st5i,List.mem_cons,List.not_mem_nil,or_false]at hq
   rcases hq with rfl|rfl|rfl|rfl|rfl<;>rfl)⟩
theorem out5i(a0:List tyK.I)(a1:List tyT.I)(c0 c1:ByteArray)(c2:List tyC.I)(c3:List tyF.I)(c4:List tyM.I)(i n:Int):Tri E0 114 [] (sub (bodyOf Tryz.f5) [1,1,1,0,1,0,0,1,0,0,1,1,1,0,0]) (frm (st5i i c4.length n)) (hi5i a0 a1 c0 c1 c2 c3 c4) (.exit 2) (frm [(1, .ptr 0 0),(3, .int .i64 n),(4, .int .i64 i)]) (hi5i a0 a1 c0 c1 c2 c3 c4):=by
 have ht:=p5i a0 a1 c0 c1 c2 c3 c4 n i c4.length
 rw[lt_no]at ht
 exact Tri.seen (X:=XN 5 [14,19,24,36,42,47,52,73,78,90,95,100,113]) g0 (noCalls fun _ _ _=>rfl) KOK.none rfl (congrArg T.run ht) (by
  intro q hq;simp only[List.mem_cons,List.not_mem_nil,or_false]at hq
  rcases hq with rfl|rfl|rfl<;>rfl)
theorem seen5o(a0:List tyK.I)(a1:List tyT.I){K:Known}{τ:Fr}{h:H}{x:X}{vs:List AV}{extra:H}(hK:KOK E0 114 [] (bodyOf Tryz.f5) K)
  (hr:(obsK (XN 5 [14,19,24,36,42,47,52,73,78,90,95,100,113]) K 114 (sub (bodyOf Tryz.f5) [1,1,1,0,1,0,0]) [1,1,1,0,1,0,0] τ h [1,2,3,4]).run= .ok (x,vs,(hm5 a0 a1)++extra)) {sl:List (Nat×AV)}
  (hs: ∀q,q∈sl→frm ([1,2,3,4].zip vs) q.1=q.2∧(noRef q.2=true∨q.2= .ptr 0 0)∧isFsl q.2=false):Tri E0 114 [] (sub (bodyOf Tryz.f5) [1,1,1,0,1,0,0]) τ h x (frm sl) (hm5 a0 a1):=by
 refine Tri.seenB (X:=XN 5 [14,19,24,36,42,47,52,73,78,90,95,100,113]) g0 noG0 (noCalls fun _ _ _=>rfl) hK rfl hr (Nat.zero_le _) (fun b hb=>?_) (fun b hb=>?_) (fun q hq=>?_)
 ·simp only[hm5,List.mem_cons,List.not_mem_nil,or_false]at hb
  rcases hb with rfl;nofun
 ·simp only[hm5,List.mem_cons,List.not_mem_nil,or_false]at hb
  rcases hb with rfl;exact congrArg Blk.var (rens_noRef _ _ (by simp only[noRefs,encL_noRef,Bool.and_true]))
 ·obtain⟨h1,h2,h3⟩:=hs q hq
  refine⟨h1,?_,h3⟩
  rcases h2 with h2|h2
  ·exact ren_noRef _ _ h2
  ·rw[h2];rfl
theorem go5o(a0:List tyK.I)(a1:List tyT.I)(c0 c1:ByteArray)(c2:List tyC.I)(c3:List tyF.I)(c4:List tyM.I)(hl:a0.length<1000000000000000)(hli:c4.length<1000000000000000)(j:Nat)(n:Int)(hj:j<a0.length)(hx:a0.getD j tyK.zero=(c0,c1,c2,c3,c4)):
  (∃n',Tri E0 114 [] (sub (bodyOf Tryz.f5) [1,1,1,0,1,0,0]) (frm (st5o j n)) (hm5 a0 a1) .normal (frm (st5o (j+1) n')) (hm5 a0 a1))∨Tri E0 114 [] (sub (bodyOf Tryz.f5) [1,1,1,0,1,0,0]) (frm (st5o j n)) (hm5 a0 a1) .ret (frm [(2, .bool false)]) (hm5 a0 a1):=by
 have f0:fitsC Tryz.prog 37 (tyK.elem tyK.zero)=true:=by kernel_rfl
 have hS:(askS
 [AV.ptr (0:Nat) (0:Nat),AV.int IntKind.i64 n,AV.int IntKind.i64 (j:Int),AV.ptr (1:Nat) (0:Nat),
  AV.int IntKind.i64 (0:Int)]
 [AV.ptr (0:Nat) (0:Nat),AV.int IntKind.i64 n,AV.int IntKind.i64 (j:Int),AV.ptr (1:Nat) (0:Nat),
  AV.int IntKind.i64 (↑(0:Nat):Int)]
 [Blk.var [AV.lst (5:Nat) (List.map tyK.elem a0) Tl.open_,AV.lst (3:Nat) (List.map tyT.elem a1) Tl.open_],
  Blk.var
   [AV.str ((tyK.elem (a0.getD j tyK.zero)).cells.getD (0:Nat) undef).toS,
    AV.str ((tyK.elem (a0.getD j tyK.zero)).cells.getD (1:Nat) undef).toS,
    AV.lst (5:Nat) ((tyK.elem (a0.getD j tyK.zero)).cells.getD (2:Nat) undef).toL Tl.open_,
    AV.lst (2:Nat) ((tyK.elem (a0.getD j tyK.zero)).cells.getD (3:Nat) undef).toL Tl.open_,
    AV.lst (5:Nat) ((tyK.elem (a0.getD j tyK.zero)).cells.getD (4:Nat) undef).toL Tl.open_]]
 [Blk.var [AV.lst (5:Nat) (List.map tyK.elem a0) Tl.open_,AV.lst (3:Nat) (List.map tyT.elem a1) Tl.open_],
  Blk.var
   [AV.str c0,AV.str c1,AV.lst (5:Nat) (List.map tyC.elem c2) Tl.open_,
    AV.lst (2:Nat) (List.map tyF.elem c3) Tl.open_,AV.lst (5:Nat) (List.map tyM.elem c4) Tl.open_]])=true:=by rw[hx];exact askS_self _ _
 have hsl: ∀(x:AV) (m:Int) (j:Int),∀q,q∈ [(1,AV.ptr 0 0),(3,AV.int .i64 m),(4,AV.int .i64 j)]→frm ([1,2,3,4].zip [AV.ptr 0 0,x,AV.int .i64 m,AV.int .i64 j]) q.1=q.2∧(noRef q.2=true∨q.2= .ptr 0 0)∧isFsl q.2=false:=by
  intro x m j q hq;simp only[List.mem_cons,List.not_mem_nil,or_false]at hq
  rcases hq with rfl|rfl|rfl
  ·exact⟨rfl, .inr rfl,rfl⟩
  ·exact⟨rfl, .inl rfl,rfl⟩
  ·exact⟨rfl, .inl rfl,rfl⟩
 have hrt: ∀(x y z:AV),∀q,q∈ [(2,AV.bool false)]→frm ([1,2,3,4].zip [x, .bool false,y,z]) q.1=q.2∧(noRef q.2=true∨q.2= .ptr 0 0)∧isFsl q.2=false:=by
  intro x y z q hq;simp only[List.mem_cons,List.not_mem_nil,or_false]at hq
  rcases hq with rfl
  exact⟨rfl, .inl rfl,rfl⟩
 rcases rounds_or (E:=E0) (N:=114) (h0:= []) (c:=sub (bodyOf Tryz.f5) [1,1,1,0,1,0,0,1,0,0,1,1,1,0,0]) (n:=c4.length) (fun _ _=>True) (fun k n=>st5i j k n) (hi5i a0 a1 c0 c1 c2 c3 c4) [(2, .bool false)] 2 (fun n=> [(1, .ptr 0 0),(3, .int .i64 n),(4, .int .i64 j)]) (fun k m hk _=>(go5i a0 a1 c0 c1 c2 c3 c4 j hli k m hk).imp (fun⟨s',h⟩=>⟨s',h,trivial⟩) id) (fun m _=>out5i a0 a1 c0 c1 c2 c3 c4 j m) c4.length 0 n (by omega) trivial with⟨m,hT,_⟩|hT
 ·have hk:KOK E0 114 [] (bodyOf Tryz.f5) (kAt [1,1,1,0,1,0,0,1,0,0,1,1,1] (st5i j 0 n) (hi5i a0 a1 c0 c1 c2 c3 c4) .normal [(1, .ptr 0 0),(3, .int .i64 m),(4, .int .i64 j)] (hi5i a0 a1 c0 c1 c2 c3 c4)):=kAt_ok (Tri.block (id:=2) (Tri.loop hT))
  have ht:=p5on a0 a1 c0 c1 c2 c3 c4 n j m
  rw[idx_ok hj f0,lt_ok hj,Int.toNat_natCast,getD_elem hj,wrap_next (by omega),hS]at ht;generalize decide ((300:Int)<((((tyK.elem (a0.getD j tyK.zero)).cells.getD 2 undef).toL.length:Nat):Int))=u1 at ht;generalize decide ((40:Int)<((((tyK.elem (a0.getD j tyK.zero)).cells.getD 3 undef).toL.length:Nat):Int))=u2 at ht;generalize decide ((40:Int)<((((tyK.elem (a0.getD j tyK.zero)).cells.getD 4 undef).toL.length:Nat):Int))=u3 at ht
  cases u1<;>cases u2<;>cases u3<;>first|exact .inl ⟨_,seen5o a0 a1 (extra:= [.var _]) hk (congrArg T.run ht) (hsl _ _ _)⟩|exact .inr (seen5o a0 a1 (extra:= [.var _]) hk (congrArg T.run ht) (hrt _ _ _))
 ·have hk:KOK E0 114 [] (bodyOf Tryz.f5) (kAt [1,1,1,0,1,0,0,1,0,0,1,1,1] (st5i j 0 n) (hi5i a0 a1 c0 c1 c2 c3 c4) .ret [(2, .bool false)] (hi5i a0 a1 c0 c1 c2 c3 c4)):=kAt_ok (Tri.block (id:=2) (Tri.loop hT))
  have ht:=p5or a0 a1 c0 c1 c2 c3 c4 n j
  rw[idx_ok hj f0,lt_ok hj,Int.toNat_natCast,getD_elem hj,hS]at ht;generalize decide ((300:Int)<((((tyK.elem (a0.getD j tyK.zero)).cells.getD 2 undef).toL.length:Nat):Int))=u1 at ht;generalize decide ((40:Int)<((((tyK.elem (a0.getD j tyK.zero)).cells.getD 3 undef).toL.length:Nat):Int))=u2 at ht;generalize decide ((40:Int)<((((tyK.elem (a0.getD j tyK.zero)).cells.getD 4 undef).toL.length:Nat):Int))=u3 at ht
  cases u1<;>cases u2<;>cases u3<;>exact .inr (seen5o a0 a1 (extra:= [.var _]) hk (congrArg T.run ht) (hrt _ _ _))
theorem out5o(a0:List tyK.I)(a1:List tyT.I)(n:Int):Tri E0 114 [] (sub (bodyOf Tryz.f5) [1,1,1,0,1,0,0]) (frm (st5o a0.length n)) (hm5 a0 a1) (.exit 0) (frm [(1, .ptr 0 0),(3, .int .i64 n)]) (hm5 a0 a1):=by
 have ht:=p5ox a0 a1 n a0.length
 rw[lt_no]at ht;refine seen5o a0 a1 (extra:= []) (kNo_ok (p:= [1,1,1,0,1,0,0,1,0,0,1,1,1])) (congrArg T.run ht) (fun q hq=>?_);simp only[List.mem_cons,List.not_mem_nil,or_false]at hq
 rcases hq with rfl|rfl
 ·exact⟨rfl, .inr rfl,rfl⟩
 ·exact⟨rfl, .inl rfl,rfl⟩
def hi5q(a0:List tyK.I)(a1:List tyT.I)(t0:ByteArray)(t1:List tyC.I)(t2:List tyV.I):H:= [.var [encL tyK a0,encL tyT a1], .var [.str t0,encL tyC t1,encL tyV t2]]
theorem go5q(a0:List tyK.I)(a1:List tyT.I)(t0:ByteArray)(t1:List tyC.I)(t2:List tyV.I)(i:Int)(hl:t2.length<1000000000000000)(k:Nat)(n:Int)(hk:k<t2.length):
  (∃n',Tri E0 114 [] (sub (bodyOf Tryz.f5) [1,1,1,1,0,1,0,0,1,0,0,1,1,1,0,0]) (frm (st5q i k n)) (hi5q a0 a1 t0 t1 t2) .normal (frm (st5q i (k+1) n')) (hi5q a0 a1 t0 t1 t2))∨Tri E0 114 [] (sub (bodyOf Tryz.f5) [1,1,1,1,0,1,0,0,1,0,0,1,1,1,0,0]) (frm (st5q i k n)) (hi5q a0 a1 t0 t1 t2) .ret (frm [(2, .bool false)]) (hi5q a0 a1 t0 t1 t2):=by
 have ht:=p5q a0 a1 t0 t1 t2 n i k
 have f0:fitsC Tryz.prog 46 (tyV.elem tyV.zero)=true:=by kernel_rfl
 rw[idx_ok hk f0,lt_ok hk,Int.toNat_natCast,getD_elem hk,wrap_next (by omega)]at ht;generalize hu:decide ((4000:Int)<IntKind.i64.wrap (n+((((tyV.elem (t2.getD k tyV.zero)).cells.getD 3 undef).toL.length:Nat):Int)))=u at ht
 cases u with
 |true=>exact .inr (Tri.seen (X:=XN 5 [14,19,24,36,42,47,52,73,78,90,95,100,113]) g0 (noCalls fun _ _ _=>rfl) KOK.none rfl (congrArg T.run ht) (by
   intro q hq;simp only[List.mem_cons,List.not_mem_nil,or_false]at hq
   rcases hq with rfl;rfl))
 |false=>exact .inl ⟨_,Tri.seen (X:=XN 5 [14,19,24,36,42,47,52,73,78,90,95,100,113]) g0 (noCalls fun _ _ _=>rfl) KOK.none rfl (congrArg T.run ht) (by
   intro q hq;simp only[st5q,List.mem_cons,List.not_mem_nil,or_false]at hq
   rcases hq with rfl|rfl|rfl|rfl|rfl<;>rfl)⟩
theorem out5q(a0:List tyK.I)(a1:List tyT.I)(t0:ByteArray)(t1:List tyC.I)(t2:List tyV.I)(i n:Int):Tri E0 114 [] (sub (bodyOf Tryz.f5) [1,1,1,1,0,1,0,0,1,0,0,1,1,1,0,0]) (frm (st5q i t2.length n)) (hi5q a0 a1 t0 t1 t2) (.exit 6) (frm [(1, .ptr 0 0),(3, .int .i64 n),(7, .int .i64 i)]) (hi5q a0 a1 t0 t1 t2):=by
 have ht:=p5q a0 a1 t0 t1 t2 n i t2.length
 rw[lt_no]at ht
 exact Tri.seen (X:=XN 5 [14,19,24,36,42,47,52,73,78,90,95,100,113]) g0 (noCalls fun _ _ _=>rfl) KOK.none rfl (congrArg T.run ht) (by
  intro q hq;simp only[List.mem_cons,List.not_mem_nil,or_false]at hq
  rcases hq with rfl|rfl|rfl<;>rfl)
theorem seen5p(a0:List tyK.I)(a1:List tyT.I){K:Known}{τ:Fr}{h:H}{x:X}{vs:List AV}{extra:H}(hK:KOK E0 114 [] (bodyOf Tryz.f5) K)
  (hr:(obsK (XN 5 [14,19,24,36,42,47,52,73,78,90,95,100,113]) K 114 (sub (bodyOf Tryz.f5) [1,1,1,1,0,1,0,0]) [1,1,1,1,0,1,0,0] τ h [1,2,3,7]).run= .ok (x,vs,(hm5 a0 a1)++extra)) {sl:List (Nat×AV)}
  (hs: ∀q,q∈sl→frm ([1,2,3,7].zip vs) q.1=q.2∧(noRef q.2=true∨q.2= .ptr 0 0)∧isFsl q.2=false):Tri E0 114 [] (sub (bodyOf Tryz.f5) [1,1,1,1,0,1,0,0]) τ h x (frm sl) (hm5 a0 a1):=by
 refine Tri.seenB (X:=XN 5 [14,19,24,36,42,47,52,73,78,90,95,100,113]) g0 noG0 (noCalls fun _ _ _=>rfl) hK rfl hr (Nat.zero_le _) (fun b hb=>?_) (fun b hb=>?_) (fun q hq=>?_)
 ·simp only[hm5,List.mem_cons,List.not_mem_nil,or_false]at hb
  rcases hb with rfl;nofun
 ·simp only[hm5,List.mem_cons,List.not_mem_nil,or_false]at hb
  rcases hb with rfl;exact congrArg Blk.var (rens_noRef _ _ (by simp only[noRefs,encL_noRef,Bool.and_true]))
 ·obtain⟨h1,h2,h3⟩:=hs q hq
  refine⟨h1,?_,h3⟩
  rcases h2 with h2|h2
  ·exact ren_noRef _ _ h2
  ·rw[h2];rfl
theorem go5p(a0:List tyK.I)(a1:List tyT.I)(t0:ByteArray)(t1:List tyC.I)(t2:List tyV.I)(hl:a1.length<1000000000000000)(hli:t2.length<1000000000000000)(j:Nat)(n:Int)(hj:j<a1.length)(hx:a1.getD j tyT.zero=(t0,t1,t2)):
  (∃n',Tri E0 114 [] (sub (bodyOf Tryz.f5) [1,1,1,1,0,1,0,0]) (frm (st5p j n)) (hm5 a0 a1) .normal (frm (st5p (j+1) n')) (hm5 a0 a1))∨Tri E0 114 [] (sub (bodyOf Tryz.f5) [1,1,1,1,0,1,0,0]) (frm (st5p j n)) (hm5 a0 a1) .ret (frm [(2, .bool false)]) (hm5 a0 a1):=by
 have f0:fitsC Tryz.prog 44 (tyT.elem tyT.zero)=true:=by kernel_rfl
 have hS:(askS
 [AV.ptr (0:Nat) (0:Nat),AV.int IntKind.i64 n,AV.int IntKind.i64 (j:Int),AV.ptr (1:Nat) (0:Nat),
  AV.int IntKind.i64 (0:Int)]
 [AV.ptr (0:Nat) (0:Nat),AV.int IntKind.i64 n,AV.int IntKind.i64 (j:Int),AV.ptr (1:Nat) (0:Nat),
  AV.int IntKind.i64 (↑(0:Nat):Int)]
 [Blk.var [AV.lst (5:Nat) (List.map tyK.elem a0) Tl.open_,AV.lst (3:Nat) (List.map tyT.elem a1) Tl.open_],
  Blk.var
   [AV.str ((tyT.elem (a1.getD j tyT.zero)).cells.getD (0:Nat) undef).toS,
    AV.lst (5:Nat) ((tyT.elem (a1.getD j tyT.zero)).cells.getD (1:Nat) undef).toL Tl.open_,
    AV.lst (4:Nat) ((tyT.elem (a1.getD j tyT.zero)).cells.getD (2:Nat) undef).toL Tl.open_]]
 [Blk.var [AV.lst (5:Nat) (List.map tyK.elem a0) Tl.open_,AV.lst (3:Nat) (List.map tyT.elem a1) Tl.open_],
  Blk.var
   [AV.str t0,AV.lst (5:Nat) (List.map tyC.elem t1) Tl.open_,AV.lst (4:Nat) (List.map tyV.elem t2) Tl.open_]])=true:=by rw[hx];exact askS_self _ _
 have hsl: ∀(x:AV) (m:Int) (j:Int),∀q,q∈ [(1,AV.ptr 0 0),(3,AV.int .i64 m),(7,AV.int .i64 j)]→frm ([1,2,3,7].zip [AV.ptr 0 0,x,AV.int .i64 m,AV.int .i64 j]) q.1=q.2∧(noRef q.2=true∨q.2= .ptr 0 0)∧isFsl q.2=false:=by
  intro x m j q hq;simp only[List.mem_cons,List.not_mem_nil,or_false]at hq
  rcases hq with rfl|rfl|rfl
  ·exact⟨rfl, .inr rfl,rfl⟩
  ·exact⟨rfl, .inl rfl,rfl⟩
  ·exact⟨rfl, .inl rfl,rfl⟩
 have hrt: ∀(x y z:AV),∀q,q∈ [(2,AV.bool false)]→frm ([1,2,3,7].zip [x, .bool false,y,z]) q.1=q.2∧(noRef q.2=true∨q.2= .ptr 0 0)∧isFsl q.2=false:=by
  intro x y z q hq;simp only[List.mem_cons,List.not_mem_nil,or_false]at hq
  rcases hq with rfl
  exact⟨rfl, .inl rfl,rfl⟩
 rcases rounds_or (E:=E0) (N:=114) (h0:= []) (c:=sub (bodyOf Tryz.f5) [1,1,1,1,0,1,0,0,1,0,0,1,1,1,0,0]) (n:=t2.length) (fun _ _=>True) (fun k n=>st5q j k n) (hi5q a0 a1 t0 t1 t2) [(2, .bool false)] 6 (fun n=> [(1, .ptr 0 0),(3, .int .i64 n),(7, .int .i64 j)]) (fun k m hk _=>(go5q a0 a1 t0 t1 t2 j hli k m hk).imp (fun⟨s',h⟩=>⟨s',h,trivial⟩) id) (fun m _=>out5q a0 a1 t0 t1 t2 j m) t2.length 0 n (by omega) trivial with⟨m,hT,_⟩|hT
 ·have hk:KOK E0 114 [] (bodyOf Tryz.f5) (kAt [1,1,1,1,0,1,0,0,1,0,0,1,1,1] (st5q j 0 n) (hi5q a0 a1 t0 t1 t2) .normal [(1, .ptr 0 0),(3, .int .i64 m),(7, .int .i64 j)] (hi5q a0 a1 t0 t1 t2)):=kAt_ok (Tri.block (id:=6) (Tri.loop hT))
  have ht:=p5pn a0 a1 t0 t1 t2 n j m
  rw[idx_ok hj f0,lt_ok hj,Int.toNat_natCast,getD_elem hj,wrap_next (by omega),hS]at ht;generalize decide ((300:Int)<((((tyT.elem (a1.getD j tyT.zero)).cells.getD 1 undef).toL.length:Nat):Int))=u1 at ht;generalize decide ((40:Int)<((((tyT.elem (a1.getD j tyT.zero)).cells.getD 2 undef).toL.length:Nat):Int))=u2 at ht
  cases u1<;>cases u2<;>first|exact .inl ⟨_,seen5p a0 a1 (extra:= [.var _]) hk (congrArg T.run ht) (hsl _ _ _)⟩|exact .inr (seen5p a0 a1 (extra:= [.var _]) hk (congrArg T.run ht) (hrt _ _ _))
 ·have hk:KOK E0 114 [] (bodyOf Tryz.f5) (kAt [1,1,1,1,0,1,0,0,1,0,0,1,1,1] (st5q j 0 n) (hi5q a0 a1 t0 t1 t2) .ret [(2, .bool false)] (hi5q a0 a1 t0 t1 t2)):=kAt_ok (Tri.block (id:=6) (Tri.loop hT))
  have ht:=p5pr a0 a1 t0 t1 t2 n j
  rw[idx_ok hj f0,lt_ok hj,Int.toNat_natCast,getD_elem hj,hS]at ht;generalize decide ((300:Int)<((((tyT.elem (a1.getD j tyT.zero)).cells.getD 1 undef).toL.length:Nat):Int))=u1 at ht;generalize decide ((40:Int)<((((tyT.elem (a1.getD j tyT.zero)).cells.getD 2 undef).toL.length:Nat):Int))=u2 at ht
  cases u1<;>cases u2<;>exact .inr (seen5p a0 a1 (extra:= [.var _]) hk (congrArg T.run ht) (hrt _ _ _))
theorem out5p(a0:List tyK.I)(a1:List tyT.I)(n:Int):Tri E0 114 [] (sub (bodyOf Tryz.f5) [1,1,1,1,0,1,0,0]) (frm (st5p a1.length n)) (hm5 a0 a1) (.exit 4) (frm [(1, .ptr 0 0),(3, .int .i64 n)]) (hm5 a0 a1):=by
 have ht:=p5px a0 a1 n a1.length
 rw[lt_no]at ht;refine seen5p a0 a1 (extra:= []) (kNo_ok (p:= [1,1,1,1,0,1,0,0,1,0,0,1,1,1])) (congrArg T.run ht) (fun q hq=>?_);simp only[List.mem_cons,List.not_mem_nil,or_false]at hq
 rcases hq with rfl|rfl
 ·exact⟨rfl, .inr rfl,rfl⟩
 ·exact⟨rfl, .inl rfl,rfl⟩
theorem con5r(a0:List tyK.I)(a1:List tyT.I)(l0:a0.length<1000000000000000)(o0: ∀x,x∈a0→tyK.okay x)(l1:a1.length<1000000000000000)(o1: ∀x,x∈a1→tyT.okay x): ∃b,∀h,Con E0 5 [tyB.elem (a0,a1)] h (.bool b) h:=by
 have fin: ∀{K:Known} {b:Bool},KOK E0 114 [] (bodyOf Tryz.f5) K→(runV (XN 5 [14,19,24,36,42,47,52,73,78,90,95,100,113]) K Tryz.f5 (bodyOf Tryz.f5) [tyB.elem (a0,a1)]).run= .ok (.bool b)→ ∃b,∀h,Con E0 5 [tyB.elem (a0,a1)] h (.bool b) h:=fun hk hr=>
  ⟨_,fun h=>Con.pureV (X:=XN 5 [14,19,24,36,42,47,52,73,78,90,95,100,113]) g0 noG0 (noCalls fun _ _ _=>rfl) (fn:=Tryz.f5) Tryz.func5 (c:=bodyOf Tryz.f5) rfl rfl (args:= [tyB.elem (a0,a1)]) hk (noRefs1 tyB _) hr (Le.refl _) rfl h⟩
 have hS1:(askS [AV.ptr (0:Nat) (0:Nat),AV.int IntKind.i64 (0:Int),AV.int IntKind.i64 (0:Int)]
 [AV.ptr (0:Nat) (0:Nat),AV.int IntKind.i64 (0:Int),AV.int IntKind.i64 (↑(0:Nat):Int)]
 [Blk.var [AV.lst (5:Nat) (List.map tyK.elem a0) Tl.open_,AV.lst (3:Nat) (List.map tyT.elem a1) Tl.open_]]
 [Blk.var [AV.lst (5:Nat) (List.map tyK.elem a0) Tl.open_,AV.lst (3:Nat) (List.map tyT.elem a1) Tl.open_]])=true:=askS_self _ _
 have g1: ∀j n,j<a0.length→True→(∃n',Tri E0 114 [] (sub (bodyOf Tryz.f5) [1,1,1,0,1,0,0]) (frm (st5o j n)) (hm5 a0 a1) .normal (frm (st5o (j+1) n')) (hm5 a0 a1)∧True)∨Tri E0 114 [] (sub (bodyOf Tryz.f5) [1,1,1,0,1,0,0]) (frm (st5o j n)) (hm5 a0 a1) .ret (frm [(2, .bool false)]) (hm5 a0 a1):=fun j n hj _=>by
  obtain⟨⟨c0,c1,c2,c3,c4⟩,hx⟩: ∃x:tyK.I,a0.getD j tyK.zero=x:=⟨_,rfl⟩;have ho:tyK.okay (a0.getD j tyK.zero):=o0 _ (by rw[List.getD_eq_getElem?_getD,List.getElem?_eq_getElem hj];exact List.getElem_mem hj);rw[hx]at ho;exact(go5o a0 a1 c0 c1 c2 c3 c4 l0 (Nat.lt_of_le_of_lt ho.2.2.2.2.1 (by decide)) j n hj hx).imp (fun⟨n',h⟩=>⟨n',h,trivial⟩) id
 have g2: ∀j n,j<a1.length→True→(∃n',Tri E0 114 [] (sub (bodyOf Tryz.f5) [1,1,1,1,0,1,0,0]) (frm (st5p j n)) (hm5 a0 a1) .normal (frm (st5p (j+1) n')) (hm5 a0 a1)∧True)∨Tri E0 114 [] (sub (bodyOf Tryz.f5) [1,1,1,1,0,1,0,0]) (frm (st5p j n)) (hm5 a0 a1) .ret (frm [(2, .bool false)]) (hm5 a0 a1):=fun j n hj _=>by
  obtain⟨⟨t0,t1,t2⟩,hx⟩: ∃x:tyT.I,a1.getD j tyT.zero=x:=⟨_,rfl⟩;have ho:tyT.okay (a1.getD j tyT.zero):=o1 _ (by rw[List.getD_eq_getElem?_getD,List.getElem?_eq_getElem hj];exact List.getElem_mem hj);rw[hx]at ho;exact(go5p a0 a1 t0 t1 t2 l1 (Nat.lt_of_le_of_lt ho.2.2.1 (by decide)) j n hj hx).imp (fun⟨n',h⟩=>⟨n',h,trivial⟩) id
 rcases rounds_or (E:=E0) (N:=114) (h0:= []) (c:=sub (bodyOf Tryz.f5) [1,1,1,0,1,0,0]) (n:=a0.length) (fun _ _=>True) st5o (hm5 a0 a1) [(2, .bool false)] 0 (fun n=> [(1, .ptr 0 0),(3, .int .i64 n)]) g1 (fun n _=>out5o a0 a1 n) a0.length 0 0 (by omega) trivial with⟨n,hT,_⟩|hT
 ·have hk1:KOK E0 114 [] (bodyOf Tryz.f5) (kAt [1,1,1,0,1] (st5o 0 0) (hm5 a0 a1) .normal [(1, .ptr 0 0),(3, .int .i64 n)] (hm5 a0 a1)):=kAt_ok (Tri.block (id:=0) (Tri.loop hT))
  rcases rounds_or (E:=E0) (N:=114) (h0:= []) (c:=sub (bodyOf Tryz.f5) [1,1,1,1,0,1,0,0]) (n:=a1.length) (fun _ _=>True) st5p (hm5 a0 a1) [(2, .bool false)] 4 (fun n=> [(1, .ptr 0 0),(3, .int .i64 n)]) g2 (fun n _=>out5p a0 a1 n) a1.length 0 n (by omega) trivial with⟨m,hU,_⟩|hU
  ·have hk2:KOK E0 114 [] (bodyOf Tryz.f5) (kAt [1,1,1,1,0,1] (st5p 0 n) (hm5 a0 a1) .normal [(1, .ptr 0 0),(3, .int .i64 m)] (hm5 a0 a1)):=kAt_ok (Tri.block (id:=4) (Tri.loop hU))
   have ht:=congrArg T.run (p5nn a0 a1 n m)
   have hS2:(askS [AV.ptr (0:Nat) (0:Nat),AV.int IntKind.i64 n,AV.int IntKind.i64 (0:Int)]
 [AV.ptr (0:Nat) (0:Nat),AV.int IntKind.i64 n,AV.int IntKind.i64 (↑(0:Nat):Int)]
 [Blk.var [AV.lst (5:Nat) (List.map tyK.elem a0) Tl.open_,AV.lst (3:Nat) (List.map tyT.elem a1) Tl.open_]]
 [Blk.var [AV.lst (5:Nat) (List.map tyK.elem a0) Tl.open_,AV.lst (3:Nat) (List.map tyT.elem a1) Tl.open_]])=true:=askS_self _ _
   rw[hS1,hS2]at ht;generalize decide ((40:Int)<((List.map tyK.elem a0).length:Nat))=u at ht;generalize decide ((40:Int)<((List.map tyT.elem a1).length:Nat))=v at ht
   cases u<;>cases v<;>exact fin (hk1.two hk2) ht
  ·have hk2:KOK E0 114 [] (bodyOf Tryz.f5) (kAt [1,1,1,1,0,1] (st5p 0 n) (hm5 a0 a1) .ret [(2, .bool false)] (hm5 a0 a1)):=kAt_ok (Tri.block (id:=4) (Tri.loop hU))
   have ht:=congrArg T.run (p5nr a0 a1 n)
   have hS2:(askS [AV.ptr (0:Nat) (0:Nat),AV.int IntKind.i64 n,AV.int IntKind.i64 (0:Int)]
 [AV.ptr (0:Nat) (0:Nat),AV.int IntKind.i64 n,AV.int IntKind.i64 (↑(0:Nat):Int)]
 [Blk.var [AV.lst (5:Nat) (List.map tyK.elem a0) Tl.open_,AV.lst (3:Nat) (List.map tyT.elem a1) Tl.open_]]
 [Blk.var [AV.lst (5:Nat) (List.map tyK.elem a0) Tl.open_,AV.lst (3:Nat) (List.map tyT.elem a1) Tl.open_]])=true:=askS_self _ _
   rw[hS1,hS2]at ht;generalize decide ((40:Int)<((List.map tyK.elem a0).length:Nat))=u at ht;generalize decide ((40:Int)<((List.map tyT.elem a1).length:Nat))=v at ht
   cases u<;>cases v<;>exact fin (hk1.two hk2) ht
 ·have hk1:KOK E0 114 [] (bodyOf Tryz.f5) (kAt [1,1,1,0,1] (st5o 0 0) (hm5 a0 a1) .ret [(2, .bool false)] (hm5 a0 a1)):=kAt_ok (Tri.block (id:=0) (Tri.loop hT))
  have ht:=congrArg T.run (p5r a0 a1)
  rw[hS1]at ht;generalize decide ((40:Int)<((List.map tyK.elem a0).length:Nat))=u at ht;generalize decide ((40:Int)<((List.map tyT.elem a1).length:Nat))=v at ht
  cases u<;>cases v<;>exact fin (hk1.two (kNo_ok (p:= [1,1,1,1,0,1]))) ht
theorem conv5(x:tyB.I)(hx:tyB.okay x): ∃b,∀h,Con E0 5 [tyB.elem x] h (.bool b) h:=by
 obtain⟨a0,a1⟩:=x;exact con5r a0 a1 (Nat.lt_of_le_of_lt hx.1.1 (by decide)) hx.1.2 (Nat.lt_of_le_of_lt hx.2.1 (by decide)) hx.2.2
noncomputable def bundX:tyB.I→Int:=fun(K,L)=>bundE K L
noncomputable def bundQ:List AV→Int:=pick 0 (fun x:tyB.I=> [tyB.elem x]) bundX
noncomputable def clBd(f:FuncId):Cl:=⟨f,okE1 tyB,fun args=> .int .i64 (bundQ args)⟩
noncomputable def g5(args:List AV):Bool:=someB E0 5 args
noncomputable def cl5:Cl:=⟨5,okE1 tyB,fun args=> .bool (g5 args)⟩
noncomputable def cs4:List Cl:= [clK 6,clBd 9,clBd 10,clKx 11,clKx 12,clTx 13,clTx 14]
noncomputable def E4:Env:={E0 with C:=lightC cs4,LC:=fun f=> [6,9,10,11,12,13,14].contains f}
noncomputable def X4:SX:={E:=E4,f:=4,con:=fun _=>false,split:=fun d=> [7,14,23,32].contains d,call:=callsBy (cl5::cs4),lit:=fun f=> [6,9,10,11,12,13,14].contains f}
theorem p4(K:List tyK.I)(L:List tyT.I)(s:ByteArray):runV X4 (fun _=>none) Tryz.f4 (bodyOf Tryz.f4) [.agg [encL tyK K,encL tyT L], .str s]=
 ((fun(s0:T AV)=>((fun(s1:T AV)=>((fun(s2:T AV)=>((fun(s3:T AV)=>((fun(s4:T AV)=>((fun(s5:T AV)=>(T.br (askQ cl5.2 [AV.agg [AV.lst 5 (List.map tyK.elem K) Tl.open_,AV.lst 3 (List.map tyT.elem L) Tl.open_]]) (T.br (!g5 [AV.agg [AV.lst 5 (List.map tyK.elem K) Tl.open_,AV.lst 3 (List.map tyT.elem L) Tl.open_]]) s0 (T.br (askQ (clBd (9:FuncId)).2 [AV.agg [AV.lst 5
 (List.map tyK.elem K) Tl.open_,AV.lst 3 (List.map tyT.elem L) Tl.open_]]) (T.br (askL E4 (9:Nat) [AV.agg [AV.lst 5 (List.map tyK.elem K) Tl.open_,AV.lst 3 (List.map tyT.elem L) Tl.open_]] (AV.int IntKind.i64 (bundQ [AV.agg [AV.lst 5 (List.map tyK.elem K) Tl.open_,AV.lst 3 (List.map tyT.elem L) Tl.open_]]))) (T.br (askQ (clBd (10:FuncId)).2 [AV.agg [AV.lst 5 (List.map tyK.elem K) Tl.open_,
 AV.lst 3 (List.map tyT.elem L) Tl.open_]]) (T.br (askL E4 (10:Nat) [AV.agg [AV.lst 5 (List.map tyK.elem K) Tl.open_,AV.lst 3 (List.map tyT.elem L) Tl.open_]] (AV.int IntKind.i64 (bundQ [AV.agg [AV.lst 5 (List.map tyK.elem K) Tl.open_,AV.lst 3 (List.map tyT.elem L) Tl.open_]]))) (T.br (decide (bundQ [AV.agg [AV.lst 5 (List.map tyK.elem K) Tl.open_,AV.lst 3 (List.map tyT.elem L) Tl.open_]]=
 bundQ [AV.agg [AV.lst 5 (List.map tyK.elem K) Tl.open_,AV.lst 3 (List.map tyT.elem L) Tl.open_]])) (T.br (askQ (clKx (11:FuncId)).2 [AV.agg [AV.lst 5 (List.map tyK.elem K) Tl.open_,AV.lst 3 (List.map tyT.elem L) Tl.open_],AV.str s]) (T.br (askL E4 (11:Nat) [AV.agg [AV.lst 5 (List.map tyK.elem K) Tl.open_,AV.lst 3 (List.map tyT.elem L) Tl.open_],AV.str s] (AV.int IntKind.i64 (classQ [AV.agg
 [AV.lst 5 (List.map tyK.elem K) Tl.open_,AV.lst 3 (List.map tyT.elem L) Tl.open_],AV.str s]))) (T.br (askQ (clKx (12:FuncId)).2 [AV.agg [AV.lst 5 (List.map tyK.elem K) Tl.open_,AV.lst 3 (List.map tyT.elem L) Tl.open_],AV.str s]) (T.br (askL E4 (12:Nat) [AV.agg [AV.lst 5 (List.map tyK.elem K) Tl.open_,AV.lst 3 (List.map tyT.elem L) Tl.open_],AV.str s] (AV.int IntKind.i64 (classQ [AV.agg
 [AV.lst 5 (List.map tyK.elem K) Tl.open_,AV.lst 3 (List.map tyT.elem L) Tl.open_],AV.str s]))) (T.br (decide (classQ [AV.agg [AV.lst 5 (List.map tyK.elem K) Tl.open_,AV.lst 3 (List.map tyT.elem L) Tl.open_],AV.str s]=classQ [AV.agg [AV.lst 5 (List.map tyK.elem K) Tl.open_,AV.lst 3 (List.map tyT.elem L) Tl.open_],AV.str s])) s5 (T.br false s0 (T.leaf (AV.bool false)))) T.fail) T.fail)
 T.fail) T.fail) (T.br false s5 (T.br false s0 (T.leaf (AV.bool false))))) T.fail) T.fail) T.fail) T.fail)) T.fail)) (T.br (askQ (clTx (13:FuncId)).2 [AV.agg [AV.lst 5 (List.map tyK.elem K) Tl.open_,AV.lst 3 (List.map tyT.elem L) Tl.open_],AV.str s]) s4 T.fail))) (T.br (askL E4 (13:Nat) [AV.agg [AV.lst 5 (List.map tyK.elem K) Tl.open_,AV.lst 3 (List.map tyT.elem L) Tl.open_],AV.str s]
 (AV.int IntKind.i64 (turnQ [AV.agg [AV.lst 5 (List.map tyK.elem K) Tl.open_,AV.lst 3 (List.map tyT.elem L) Tl.open_],AV.str s]))) s3 T.fail))) (T.br (askQ (clTx (14:FuncId)).2 [AV.agg [AV.lst 5 (List.map tyK.elem K) Tl.open_,AV.lst 3 (List.map tyT.elem L) Tl.open_],AV.str s]) s2 T.fail))) (T.br (askL E4 (14:Nat) [AV.agg [AV.lst 5 (List.map tyK.elem K) Tl.open_,AV.lst 3 (List.map tyT.elem
 L) Tl.open_],AV.str s] (AV.int IntKind.i64 (turnQ [AV.agg [AV.lst 5 (List.map tyK.elem K) Tl.open_,AV.lst 3 (List.map tyT.elem L) Tl.open_],AV.str s]))) s1 T.fail))) (T.br (decide (turnQ [AV.agg [AV.lst 5 (List.map tyK.elem K) Tl.open_,AV.lst 3 (List.map tyT.elem L) Tl.open_],AV.str s]=turnQ [AV.agg [AV.lst 5 (List.map tyK.elem K) Tl.open_,AV.lst 3 (List.map tyT.elem L) Tl.open_],AV.str
 s])) s0 (T.leaf (AV.bool false))))) (T.br (askQ (clK (6:FuncId)).2 []) (T.br (askL E4 (6:Nat) [] (AV.bool true)) (T.leaf (AV.bool true)) T.fail) T.fail)):=by kernel_rfl
theorem bundQ_eq(K:List tyK.I)(L:List tyT.I):bundQ [tyB.elem (K,L)]=bundE K L:=pick_eq (enc:=fun x:tyB.I=> [tyB.elem x]) (f:=bundX) (fun x y h=>Ty.elem_inj (List.cons.inj h).1) (K,L)
theorem clBd_ok(f:FuncId)(hc: ∀(K:List tyK.I) (L:List tyT.I),tyB.okay (K,L)→ ∀h,Con E0 f [tyB.elem (K,L)] h (.int .i64 (bundE K L)) h): ∀args,(clBd f).ok args→ ∀h,Con E0 (clBd f).f args h ((clBd f).res args) h:=by
 rintro args ⟨⟨K,L⟩,rfl,hx⟩ h;show Con E0 f _ h (.int .i64 (bundQ [tyB.elem (K,L)])) h;exact(congrArg (fun n:Int=>Con E0 f [tyB.elem (K,L)] h (.int .i64 n) h) (bundQ_eq K L)).mpr (hc K L hx h)
theorem cs4_ok(h6: ∀h,Con E0 6 [] h (.bool true) h): ∀c,c∈cs4→ ∀args,c.ok args→ ∀h,Con E0 c.f args h (c.res args) h:=fun c hc=>by
 rcases List.mem_cons.1 hc with rfl|hc
 ·exact clK_con h6
 rcases List.mem_cons.1 hc with rfl|hc
 ·exact clBd_ok 9 con9
 rcases List.mem_cons.1 hc with rfl|hc
 ·exact clBd_ok 10 con10
 rcases List.mem_cons.1 hc with rfl|hc
 ·exact clKx_ok 11 conv11
 rcases List.mem_cons.1 hc with rfl|hc
 ·exact clKx_ok 12 conv12
 rcases List.mem_cons.1 hc with rfl|hc
 ·exact clTx_ok 13 conv13
 ·obtain rfl:=List.mem_singleton.1 hc
  exact clTx_ok 14 conv14
theorem cs4_noF: ∀c,c∈cs4→ ∀args,noF (c.res args)=true:=fun c hc args=>by
 rcases List.mem_cons.1 hc with rfl|hc
 ·rfl
 rcases List.mem_cons.1 hc with rfl|hc
 ·rfl
 rcases List.mem_cons.1 hc with rfl|hc
 ·rfl
 rcases List.mem_cons.1 hc with rfl|hc
 ·rfl
 rcases List.mem_cons.1 hc with rfl|hc
 ·rfl
 rcases List.mem_cons.1 hc with rfl|hc
 ·rfl
 ·obtain rfl:=List.mem_singleton.1 hc
  rfl
theorem g4(h6: ∀h,Con E0 6 [] h (.bool true) h):Ground E4:=⟨fun t h=>by simpa [E4,E0]using h,lightC_ok rfl (fun c hc args ha h=>Con.env (E:=E0) (E':=E4) rfl rfl (cs4_ok h6 c hc args ha h)) cs4_noF,bok_none (fun _=>rfl),by kernel_rfl⟩
theorem calls4(h6: ∀h,Con E0 6 [] h (.bool true) h):CallOK X4.E X4.calls:=callsBy_ok rfl fun c hc args ha h=>by
 refine Con.env (E:=E0) (E':=E4) rfl rfl ?_
 rcases List.mem_cons.1 hc with rfl|hc
 ·exact someB_con (by obtain⟨x,rfl,hx⟩:=ha;exact conv5 x hx) h
 ·exact cs4_ok h6 c hc args ha h
theorem con4(x:tyB.I)(s:ByteArray)(hx:tyB.okay x)(h6: ∀h,Con E0 6 [] h (.bool true) h): ∃h',Con E0 4 [tyB.elem x, .str s] [] (.bool true) h':=by
 obtain⟨K,L,rfl⟩: ∃(K:List tyK.I) (L:List tyT.I),x=(K,L):=⟨x.1,x.2,rfl⟩;have lK:K.length<1000000000000000:=Nat.lt_of_le_of_lt hx.1.1 (by decide);have lL:L.length<1000000000000000:=Nat.lt_of_le_of_lt hx.2.1 (by decide);have oa:okE1 tyB [tyB.elem (K,L)]:=⟨_,rfl,hx⟩;have ob:okBS [tyB.elem (K,L), .str s]:=⟨K,L,s,rfl,lK,lL⟩
 have hr:(runV X4 (fun _=>none) Tryz.f4 (bodyOf Tryz.f4) [tyB.elem (K,L), .str s]).run= .ok (.bool true):=by
  refine(congrArg T.run (p4 K L s)).trans ?_
  refine bA ?_ oa
  cases ga:g5 [tyB.elem (K,L)]with
  |false=>exact bT (congrArg not ga) (bA (bL (cs:=cs4) (c:=clK 6) rfl rfl rfl rfl rfl rfl) rfl)
  |true=>
   refine bF (congrArg not ga) ?_
   refine bA (bL (cs:=cs4) (c:=clBd 9) rfl rfl oa rfl rfl ?_) oa;refine bA (bL (cs:=cs4) (c:=clBd 10) rfl rfl oa rfl rfl (bT (decide_eq_true rfl) ?_)) oa;refine bA (bL (cs:=cs4) (c:=clKx 11) rfl rfl ob rfl rfl ?_) ob;refine bA (bL (cs:=cs4) (c:=clKx 12) rfl rfl ob rfl rfl (bT (decide_eq_true rfl) ?_)) ob;refine bA (bL (cs:=cs4) (c:=clTx 13) rfl rfl ob rfl rfl ?_) ob;refine bA (bL (cs:=cs4) (c:=clTx 14) rfl rfl ob rfl rfl (bT (decide_eq_true rfl) ?_)) ob;exact bA (bL (cs:=cs4) (c:=clK 6) rfl rfl rfl rfl rfl rfl) rfl
 obtain⟨⟨v,h'⟩,h2,h3⟩:=T.bind_ok hr;cases h3;exact⟨h',Con.env (E:=E4) (E':=E0) rfl rfl (Con.of_run (X:=X4) (f:=4) (g4 h6) (calls4 h6) (fn:=Tryz.f4) Tryz.func4 (c:=bodyOf Tryz.f4) rfl rfl (args:= [tyB.elem (K,L), .str s]) (h:= []) KOK.none h2)⟩
theorem formsG:Tryz.prog.globalNamed "hornbook/ins.forms" =some 0:=by kernel_rfl
theorem formsT:(Tryz.prog.globals[0]?).map (·.type)=some 166:=by kernel_rfl
theorem formsTree:tree Tryz.prog 9 166 (Rows.laid_hornbook_ins_forms:DataW Unit)=some formsL:=by kernel_rfl
noncomputable def EK:Env:={E0 with C:=C0,M:=10000,L:=fun f s=>(f==15&&s==17)||(f==39&&s==11)||(f==6&&s==11)}
theorem known:val (acall EK 500 6 [] [])= .ok (.bool true):=by kernel_rfl
theorem gK:Ground EK:=⟨fun t h=>by simpa [EK,E0]using h,cok0 rfl rfl,bok_none (fun _=>rfl),by kernel_rfl⟩
theorem known6(h:H):Con E0 6 [] h (.bool true) h:=by
 obtain⟨h',hh⟩:=val_ok known;exact Con.base noG0 (Con.env (E:=EK) (E':=E0) rfl rfl (Con.of_acall gK hh)) rfl rfl h
theorem ty25:Ty.of Tryz.prog 40 25=some tyB:=by kernel_rfl
theorem okT25:okT Tryz.prog 9 25=true:=by kernel_rfl
set_option maxRecDepth 100000 in
theorem open25{H:Type}{enc:TypeId×Value→H}{b:Nat}{d:DataW H}{ps:List MemPlace}{W:World}{v:Value}(hv:Value.okWide Tryz.prog W .any b 25 v)(h:DataW.Trod enc Tryz.prog W 0 (fun _=>true) true 25 v d ps)(hw: ∀n∈d.weights Tryz.prog 25,n≤reachBytes):
  ∃x:tyB.I,CR F0 rho0 W v (tyB.elem x)∧tyB.okay x:=by
 obtain⟨cs,rfl,_⟩:=okWide_struct Tryz.underlying25 hv;obtain⟨fuel,hf⟩:=h
 obtain⟨l,hc,hs,hl⟩:=open_ok (F:=F0) (ρ:=rho0) (w:=W) (fun B off hF=>by
  rcases hF with⟨b,k,y,h1,_⟩|h1
  ·cases h1
  ·exact h1) 9 25 okT25 fuel _ _ hf hw
 obtain⟨x,hx,hk⟩:=(shp_ty (P:=Tryz.prog) 40).1 25 _ ty25 9 l hs;subst hx;obtain⟨a0,a1⟩:=x;exact⟨_, .agg_of hc,hk⟩
set_option maxRecDepth 100000 in
theorem packRights{H:Type}{enc:TypeId×Value→H}{b:Nat}{d:DataW H}{ps:List MemPlace}(W:World)(hX:laidMetH Tryz.prog Rows.packRightsRow.laid W)
  (v:Value) (hv:Value.okWide Tryz.prog W .any b 25 v) (h:DataW.Trod enc Tryz.prog W 0 (fun _=>true) true 25 v d ps) (hw: ∀n∈d.weights Tryz.prog 25,n≤reachBytes) (s:ByteArray) (_:s.size≤140737488351232):
  Calls Tryz.prog 4 #[v, .string s] W fun e w'=>e= .returned (.bool true)∧Below W.heap.size W w':=by
 obtain⟨x,hx,ox⟩:=open25 hv h hw;obtain⟨m,hc⟩:=con4 x s ox known6
 refine Con.bool (E:=E0) hc (vs:= #[v, .string s]) (.cons hx (.cons (.str _) .nil)) ?_
 intro i cs h;simp only[E0]at h;split at h
 ·rename_i hi
  subst hi;cases h;exact globH_of (P:=Tryz.prog) (laid:=Rows.packRightsRow.laid) hX (by kernel_rfl) (List.mem_of_getElem? (i:=1) (a:=("hornbook/ins.forms",Rows.laid_hornbook_ins_forms)) rfl) formsG formsT formsTree
 ·cases h
end Go.Proofs.YtaooangghieljaaGreatDoor.AM
