-- SQUEEZED
/- Where fields and methods stand; whether they can be, by the program. -/
import Derived.Test.YtaooangghieljaaGreatDoorBNames
namespace Go.Proofs.YtaooangghieljaaGreatDoor.AM
open Go Go.Proofs Go.RowKit
set_option linter.unusedVariables false
set_option linter.unusedSimpArgs false
def st15(s:ByteArray)(j:Nat):List (Nat×AV):= [(1, .str s),(2, .ptr 0 0),(5, .int .i64 j)]
def rt15(s:ByteArray)(j:Nat):List (Nat×AV):= [(4, .int .i64 j)]
theorem p15(a0 a1:ByteArray)(a2:List tyC.I)(a3:List tyF.I)(a4:List tyM.I)(s:ByteArray)(i:Int):obsK (XN 60 [10,20]) (fun _=>none) 22 (sub (bodyOf Tryz.f60) [1,0,1,0,0]) [1,0,1,0,0] (frm [(1, .str s),(2, .ptr 0 0),(5, .int .i64 i)]) [.var [.str a0, .str a1,encL tyC a2,encL tyF a3,encL tyM a4]] [1,2,4,5]=
 (T.br (decide (i<(↑(List.map tyF.elem a3).length:Int))) (T.br (decide ((0:Int)≤i)&&decide (i<(↑(List.map tyF.elem a3).length:Int))&&fitsC Tryz.prog (86:Nat) ((List.map tyF.elem a3).getD i.toNat undef)) (T.br (decide ((((List.map tyF.elem a3).getD i.toNat undef).cells.getD 0 undef).toS=s)) (T.leaf ((X.ret,[AV.str s,AV.ptr 0 0,AV.int IntKind.i64 i,AV.int IntKind.i64 i],
 [Blk.var [AV.str a0,AV.str a1,AV.lst 5 (List.map tyC.elem a2) Tl.open_,AV.lst 2 (List.map tyF.elem a3) Tl.open_,AV.lst 5 (List.map tyM.elem a4) Tl.open_]]))) (T.leaf ((X.normal,[AV.str s,AV.ptr 0 0,AV.fsl 0 [],AV.int IntKind.i64 (IntKind.i64.wrap (i+1))],[Blk.var [AV.str a0,AV.str a1,AV.lst 5 (List.map tyC.elem a2) Tl.open_,AV.lst 2 (List.map tyF.elem a3) Tl.open_,AV.lst 5 (List.map
 tyM.elem a4) Tl.open_]])))) T.fail) (T.leaf ((X.exit 0,[AV.str s,AV.ptr 0 0,AV.fsl 0 [],AV.int IntKind.i64 i],[Blk.var [AV.str a0,AV.str a1,AV.lst 5 (List.map tyC.elem a2) Tl.open_,AV.lst 2 (List.map tyF.elem a3) Tl.open_,AV.lst 5 (List.map tyM.elem a4) Tl.open_]])))):=by kernel_rfl
theorem p15s(a0 a1:ByteArray)(a2:List tyC.I)(a3:List tyF.I)(a4:List tyM.I)(s:ByteArray)(j:Nat):runV (XN 60 [10,20]) (kAt [1,0,1] (st15 s 0) [.var [.str a0, .str a1,encL tyC a2,encL tyF a3,encL tyM a4]] .ret (rt15 s j) [.var [.str a0, .str a1,encL tyC a2,encL tyF a3,encL tyM a4]]) Tryz.f60 (bodyOf Tryz.f60) [.agg [.str a0, .str a1,encL tyC a2,encL tyF a3,encL tyM a4], .str s]=
 (T.br (askS [AV.str s,AV.ptr 0 (0:Nat),AV.int IntKind.i64 (0:Int)] [AV.str s,AV.ptr 0 (0:Nat),AV.int IntKind.i64 (↑(0:Nat):Int)] [Blk.var [AV.str a0,AV.str a1,AV.lst 5 (List.map tyC.elem a2) Tl.open_,AV.lst 2 (List.map tyF.elem a3) Tl.open_,AV.lst 5 (List.map tyM.elem a4) Tl.open_]] [Blk.var [AV.str a0,AV.str a1,AV.lst 5 (List.map tyC.elem a2) Tl.open_,AV.lst 2 (List.map
 tyF.elem a3) Tl.open_,AV.lst 5 (List.map tyM.elem a4) Tl.open_]]) (T.leaf (AV.int IntKind.i64 (↑j:Int))) T.fail):=by kernel_rfl
theorem p15n(a0 a1:ByteArray)(a2:List tyC.I)(a3:List tyF.I)(a4:List tyM.I)(s:ByteArray):runV (XN 60 [10,20]) (kAt [1,0,1] (st15 s 0) [.var [.str a0, .str a1,encL tyC a2,encL tyF a3,encL tyM a4]] .normal (st15 s a3.length) [.var [.str a0, .str a1,encL tyC a2,encL tyF a3,encL tyM a4]]) Tryz.f60 (bodyOf Tryz.f60) [.agg [.str a0, .str a1,encL tyC a2,encL tyF a3,encL tyM a4], .str s]=
 (T.br (askS [AV.str s,AV.ptr 0 (0:Nat),AV.int IntKind.i64 (0:Int)] [AV.str s,AV.ptr 0 (0:Nat),AV.int IntKind.i64 (↑(0:Nat):Int)] [Blk.var [AV.str a0,AV.str a1,AV.lst 5 (List.map tyC.elem a2) Tl.open_,AV.lst 2 (List.map tyF.elem a3) Tl.open_,AV.lst 5 (List.map tyM.elem a4) Tl.open_]] [Blk.var [AV.str a0,AV.str a1,AV.lst 5 (List.map tyC.elem a2) Tl.open_,AV.lst 2 (List.map
 tyF.elem a3) Tl.open_,AV.lst 5 (List.map tyM.elem a4) Tl.open_]]) (T.leaf (AV.int IntKind.i64 (-1))) T.fail):=by kernel_rfl
def nmF(x:tyF.I):ByteArray:=((tyF.elem x).cells.getD 0 undef).toS
def hm15(a0 a1:ByteArray)(a2:List tyC.I)(a3:List tyF.I)(a4:List tyM.I):H:= [.var [.str a0, .str a1,encL tyC a2,encL tyF a3,encL tyM a4]]
theorem con15r(a0 a1:ByteArray)(a2:List tyC.I)(a3:List tyF.I)(a4:List tyM.I)(s:ByteArray)(hl:a3.length<1000000000000000)(h:H):
  Con E0 60 [tyK.elem (a0,a1,a2,a3,a4), .str s] h (.int .i64 (placeOf (firstI (fun j=>nmF (a3.getD j tyF.zero)=s) a3.length))) h:=by
 have f0:fitsC Tryz.prog 86 (tyF.elem tyF.zero)=true:=by kernel_rfl
 have hn:noRefs [tyK.elem (a0,a1,a2,a3,a4), .str s]=true:=by
  have:=noRefs1 tyK (a0,a1,a2,a3,a4)
  simp only[noRefs,Bool.and_true]at this ⊢
  rw[this];rfl
 have fin: ∀{K:Known} {v:Int},KOK E0 22 [] (bodyOf Tryz.f60) K→(runV (XN 60 [10,20]) K Tryz.f60 (bodyOf Tryz.f60) [tyK.elem (a0,a1,a2,a3,a4), .str s]).run= .ok (.int .i64 v)→Con E0 60 [tyK.elem (a0,a1,a2,a3,a4), .str s] h (.int .i64 v) h:=fun hk hr=>
  Con.pureV (X:=XN 60 [10,20]) g0 noG0 (noCalls fun _ _ _=>rfl) (fn:=Tryz.f60) Tryz.func60 (c:=bodyOf Tryz.f60) rfl rfl (args:= [tyK.elem (a0,a1,a2,a3,a4), .str s]) hk hn hr (Le.refl _) rfl h
 have hS:(askS [AV.str s,AV.ptr (0:Nat) (0:Nat),AV.int IntKind.i64 (0:Int)]
 [AV.str s,AV.ptr (0:Nat) (0:Nat),AV.int IntKind.i64 (↑(0:Nat):Int)]
 [Blk.var
   [AV.str a0,AV.str a1,AV.lst (5:Nat) (List.map tyC.elem a2) Tl.open_,
    AV.lst (2:Nat) (List.map tyF.elem a3) Tl.open_,AV.lst (5:Nat) (List.map tyM.elem a4) Tl.open_]]
 [Blk.var
   [AV.str a0,AV.str a1,AV.lst (5:Nat) (List.map tyC.elem a2) Tl.open_,
    AV.lst (2:Nat) (List.map tyF.elem a3) Tl.open_,AV.lst (5:Nat) (List.map tyM.elem a4) Tl.open_]])=true:=askS_self _ _
 have hT:=find_rounds (E:=E0) (N:=22) (h0:= []) (c:=sub (bodyOf Tryz.f60) [1,0,1,0,0]) (p:=fun j=>nmF (a3.getD j tyF.zero)=s) (n:=a3.length) (st:=st15 s) (hm:=hm15 a0 a1 a2 a3 a4) (rt:=rt15 s) (id:=0)
  (fun j hj hp=>by
   have ht:=p15 a0 a1 a2 a3 a4 s j
   have hp':decide (((tyF.elem (a3.getD j tyF.zero)).cells.getD 0 undef).toS=s)=false:=decide_eq_false hp;rw[idx_ok hj f0,lt_ok hj,Int.toNat_natCast,getD_elem hj,wrap_next (by omega),hp']at ht
   exact Tri.seen (X:=XN 60 [10,20]) g0 (noCalls fun _ _ _=>rfl) KOK.none rfl (congrArg T.run ht) (by
    intro q hq;simp only[st15,List.mem_cons,List.not_mem_nil,or_false]at hq
    rcases hq with rfl|rfl|rfl<;>rfl))
  (fun j hj hp=>by
   have ht:=p15 a0 a1 a2 a3 a4 s j
   have hp':decide (((tyF.elem (a3.getD j tyF.zero)).cells.getD 0 undef).toS=s)=true:=decide_eq_true hp;rw[idx_ok hj f0,lt_ok hj,Int.toNat_natCast,getD_elem hj,hp']at ht
   exact Tri.seen (X:=XN 60 [10,20]) g0 (noCalls fun _ _ _=>rfl) KOK.none rfl (congrArg T.run ht) (by
    intro q hq;simp only[rt15,List.mem_cons,List.not_mem_nil,or_false]at hq
    rcases hq with rfl;rfl))
  (by
   have ht:=p15 a0 a1 a2 a3 a4 s a3.length
   rw[lt_no]at ht
   exact Tri.seen (X:=XN 60 [10,20]) g0 (noCalls fun _ _ _=>rfl) KOK.none rfl (congrArg T.run ht) (by
    intro q hq;simp only[st15,List.mem_cons,List.not_mem_nil,or_false]at hq
    rcases hq with rfl|rfl|rfl<;>rfl))
 cases hf:firstI (fun j=>nmF (a3.getD j tyF.zero)=s) a3.length with
 |some i=>
  rw[hf]at hT;have hk:KOK E0 22 [] (bodyOf Tryz.f60) (kAt [1,0,1] (st15 s 0) (hm15 a0 a1 a2 a3 a4) .ret (rt15 s i) (hm15 a0 a1 a2 a3 a4)):=kAt_ok (Tri.block (id:=0) (Tri.loop hT))
  have ht:=p15s a0 a1 a2 a3 a4 s i
  rw[hS]at ht;exact fin hk (congrArg T.run ht)
 |none=>
  rw[hf]at hT;have hk:KOK E0 22 [] (bodyOf Tryz.f60) (kAt [1,0,1] (st15 s 0) (hm15 a0 a1 a2 a3 a4) .normal (st15 s a3.length) (hm15 a0 a1 a2 a3 a4)):=kAt_ok (Tri.block (id:=0) (Tri.loop hT))
  have ht:=p15n a0 a1 a2 a3 a4 s
  rw[hS]at ht;exact fin hk (congrArg T.run ht)
def st17(s:ByteArray)(j:Nat):List (Nat×AV):= [(1, .str s),(2, .ptr 0 0),(5, .int .i64 j)]
def rt17(s:ByteArray)(j:Nat):List (Nat×AV):= [(4, .int .i64 j)]
theorem p17(a0 a1:ByteArray)(a2:List tyC.I)(a3:List tyF.I)(a4:List tyM.I)(s:ByteArray)(i:Int):obsK (XN 84 [10,20]) (fun _=>none) 22 (sub (bodyOf Tryz.f84) [1,0,1,0,0]) [1,0,1,0,0] (frm [(1, .str s),(2, .ptr 0 0),(5, .int .i64 i)]) [.var [.str a0, .str a1,encL tyC a2,encL tyF a3,encL tyM a4]] [1,2,4,5]=
 (T.br (decide (i<(↑(List.map tyM.elem a4).length:Int))) (T.br (decide ((0:Int)≤i)&&decide (i<(↑(List.map tyM.elem a4).length:Int))&&fitsC Tryz.prog (41:Nat) ((List.map tyM.elem a4).getD i.toNat undef)) (T.br (decide ((((List.map tyM.elem a4).getD i.toNat undef).cells.getD 0 undef).toS=s)) (T.leaf ((X.ret,[AV.str s,AV.ptr 0 0,AV.int IntKind.i64 i,AV.int IntKind.i64 i],
 [Blk.var [AV.str a0,AV.str a1,AV.lst 5 (List.map tyC.elem a2) Tl.open_,AV.lst 2 (List.map tyF.elem a3) Tl.open_,AV.lst 5 (List.map tyM.elem a4) Tl.open_]]))) (T.leaf ((X.normal,[AV.str s,AV.ptr 0 0,AV.fsl 0 [],AV.int IntKind.i64 (IntKind.i64.wrap (i+1))],[Blk.var [AV.str a0,AV.str a1,AV.lst 5 (List.map tyC.elem a2) Tl.open_,AV.lst 2 (List.map tyF.elem a3) Tl.open_,AV.lst 5 (List.map
 tyM.elem a4) Tl.open_]])))) T.fail) (T.leaf ((X.exit 0,[AV.str s,AV.ptr 0 0,AV.fsl 0 [],AV.int IntKind.i64 i],[Blk.var [AV.str a0,AV.str a1,AV.lst 5 (List.map tyC.elem a2) Tl.open_,AV.lst 2 (List.map tyF.elem a3) Tl.open_,AV.lst 5 (List.map tyM.elem a4) Tl.open_]])))):=by kernel_rfl
theorem p17s(a0 a1:ByteArray)(a2:List tyC.I)(a3:List tyF.I)(a4:List tyM.I)(s:ByteArray)(j:Nat):runV (XN 84 [10,20]) (kAt [1,0,1] (st17 s 0) [.var [.str a0, .str a1,encL tyC a2,encL tyF a3,encL tyM a4]] .ret (rt17 s j) [.var [.str a0, .str a1,encL tyC a2,encL tyF a3,encL tyM a4]]) Tryz.f84 (bodyOf Tryz.f84) [.agg [.str a0, .str a1,encL tyC a2,encL tyF a3,encL tyM a4], .str s]=
 (T.br (askS [AV.str s,AV.ptr 0 (0:Nat),AV.int IntKind.i64 (0:Int)] [AV.str s,AV.ptr 0 (0:Nat),AV.int IntKind.i64 (↑(0:Nat):Int)] [Blk.var [AV.str a0,AV.str a1,AV.lst 5 (List.map tyC.elem a2) Tl.open_,AV.lst 2 (List.map tyF.elem a3) Tl.open_,AV.lst 5 (List.map tyM.elem a4) Tl.open_]] [Blk.var [AV.str a0,AV.str a1,AV.lst 5 (List.map tyC.elem a2) Tl.open_,AV.lst 2 (List.map
 tyF.elem a3) Tl.open_,AV.lst 5 (List.map tyM.elem a4) Tl.open_]]) (T.leaf (AV.int IntKind.i64 (↑j:Int))) T.fail):=by kernel_rfl
theorem p17n(a0 a1:ByteArray)(a2:List tyC.I)(a3:List tyF.I)(a4:List tyM.I)(s:ByteArray):runV (XN 84 [10,20]) (kAt [1,0,1] (st17 s 0) [.var [.str a0, .str a1,encL tyC a2,encL tyF a3,encL tyM a4]] .normal (st17 s a4.length) [.var [.str a0, .str a1,encL tyC a2,encL tyF a3,encL tyM a4]]) Tryz.f84 (bodyOf Tryz.f84) [.agg [.str a0, .str a1,encL tyC a2,encL tyF a3,encL tyM a4], .str s]=
 (T.br (askS [AV.str s,AV.ptr 0 (0:Nat),AV.int IntKind.i64 (0:Int)] [AV.str s,AV.ptr 0 (0:Nat),AV.int IntKind.i64 (↑(0:Nat):Int)] [Blk.var [AV.str a0,AV.str a1,AV.lst 5 (List.map tyC.elem a2) Tl.open_,AV.lst 2 (List.map tyF.elem a3) Tl.open_,AV.lst 5 (List.map tyM.elem a4) Tl.open_]] [Blk.var [AV.str a0,AV.str a1,AV.lst 5 (List.map tyC.elem a2) Tl.open_,AV.lst 2 (List.map
 tyF.elem a3) Tl.open_,AV.lst 5 (List.map tyM.elem a4) Tl.open_]]) (T.leaf (AV.int IntKind.i64 (-1))) T.fail):=by kernel_rfl
def nmM(x:tyM.I):ByteArray:=((tyM.elem x).cells.getD 0 undef).toS
def hm17(a0 a1:ByteArray)(a2:List tyC.I)(a3:List tyF.I)(a4:List tyM.I):H:= [.var [.str a0, .str a1,encL tyC a2,encL tyF a3,encL tyM a4]]
theorem con17r(a0 a1:ByteArray)(a2:List tyC.I)(a3:List tyF.I)(a4:List tyM.I)(s:ByteArray)(hl:a4.length<1000000000000000)(h:H):
  Con E0 84 [tyK.elem (a0,a1,a2,a3,a4), .str s] h (.int .i64 (placeOf (firstI (fun j=>nmM (a4.getD j tyM.zero)=s) a4.length))) h:=by
 have f0:fitsC Tryz.prog 41 (tyM.elem tyM.zero)=true:=by kernel_rfl
 have hn:noRefs [tyK.elem (a0,a1,a2,a3,a4), .str s]=true:=by
  have:=noRefs1 tyK (a0,a1,a2,a3,a4)
  simp only[noRefs,Bool.and_true]at this ⊢
  rw[this];rfl
 have fin: ∀{K:Known} {v:Int},KOK E0 22 [] (bodyOf Tryz.f84) K→(runV (XN 84 [10,20]) K Tryz.f84 (bodyOf Tryz.f84) [tyK.elem (a0,a1,a2,a3,a4), .str s]).run= .ok (.int .i64 v)→Con E0 84 [tyK.elem (a0,a1,a2,a3,a4), .str s] h (.int .i64 v) h:=fun hk hr=>
  Con.pureV (X:=XN 84 [10,20]) g0 noG0 (noCalls fun _ _ _=>rfl) (fn:=Tryz.f84) Tryz.func84 (c:=bodyOf Tryz.f84) rfl rfl (args:= [tyK.elem (a0,a1,a2,a3,a4), .str s]) hk hn hr (Le.refl _) rfl h
 have hS:(askS [AV.str s,AV.ptr (0:Nat) (0:Nat),AV.int IntKind.i64 (0:Int)]
 [AV.str s,AV.ptr (0:Nat) (0:Nat),AV.int IntKind.i64 (↑(0:Nat):Int)]
 [Blk.var
   [AV.str a0,AV.str a1,AV.lst (5:Nat) (List.map tyC.elem a2) Tl.open_,
    AV.lst (2:Nat) (List.map tyF.elem a3) Tl.open_,AV.lst (5:Nat) (List.map tyM.elem a4) Tl.open_]]
 [Blk.var
   [AV.str a0,AV.str a1,AV.lst (5:Nat) (List.map tyC.elem a2) Tl.open_,
    AV.lst (2:Nat) (List.map tyF.elem a3) Tl.open_,AV.lst (5:Nat) (List.map tyM.elem a4) Tl.open_]])=true:=askS_self _ _
 have hT:=find_rounds (E:=E0) (N:=22) (h0:= []) (c:=sub (bodyOf Tryz.f84) [1,0,1,0,0]) (p:=fun j=>nmM (a4.getD j tyM.zero)=s) (n:=a4.length) (st:=st17 s) (hm:=hm17 a0 a1 a2 a3 a4) (rt:=rt17 s) (id:=0)
  (fun j hj hp=>by
   have ht:=p17 a0 a1 a2 a3 a4 s j
   have hp':decide (((tyM.elem (a4.getD j tyM.zero)).cells.getD 0 undef).toS=s)=false:=decide_eq_false hp;rw[idx_ok hj f0,lt_ok hj,Int.toNat_natCast,getD_elem hj,wrap_next (by omega),hp']at ht
   exact Tri.seen (X:=XN 84 [10,20]) g0 (noCalls fun _ _ _=>rfl) KOK.none rfl (congrArg T.run ht) (by
    intro q hq;simp only[st17,List.mem_cons,List.not_mem_nil,or_false]at hq
    rcases hq with rfl|rfl|rfl<;>rfl))
  (fun j hj hp=>by
   have ht:=p17 a0 a1 a2 a3 a4 s j
   have hp':decide (((tyM.elem (a4.getD j tyM.zero)).cells.getD 0 undef).toS=s)=true:=decide_eq_true hp;rw[idx_ok hj f0,lt_ok hj,Int.toNat_natCast,getD_elem hj,hp']at ht
   exact Tri.seen (X:=XN 84 [10,20]) g0 (noCalls fun _ _ _=>rfl) KOK.none rfl (congrArg T.run ht) (by
    intro q hq;simp only[rt17,List.mem_cons,List.not_mem_nil,or_false]at hq
    rcases hq with rfl;rfl))
  (by
   have ht:=p17 a0 a1 a2 a3 a4 s a4.length
   rw[lt_no]at ht
   exact Tri.seen (X:=XN 84 [10,20]) g0 (noCalls fun _ _ _=>rfl) KOK.none rfl (congrArg T.run ht) (by
    intro q hq;simp only[st17,List.mem_cons,List.not_mem_nil,or_false]at hq
    rcases hq with rfl|rfl|rfl<;>rfl))
 cases hf:firstI (fun j=>nmM (a4.getD j tyM.zero)=s) a4.length with
 |some i=>
  rw[hf]at hT;have hk:KOK E0 22 [] (bodyOf Tryz.f84) (kAt [1,0,1] (st17 s 0) (hm17 a0 a1 a2 a3 a4) .ret (rt17 s i) (hm17 a0 a1 a2 a3 a4)):=kAt_ok (Tri.block (id:=0) (Tri.loop hT))
  have ht:=p17s a0 a1 a2 a3 a4 s i
  rw[hS]at ht;exact fin hk (congrArg T.run ht)
 |none=>
  rw[hf]at hT;have hk:KOK E0 22 [] (bodyOf Tryz.f84) (kAt [1,0,1] (st17 s 0) (hm17 a0 a1 a2 a3 a4) .normal (st17 s a4.length) (hm17 a0 a1 a2 a3 a4)):=kAt_ok (Tri.block (id:=0) (Tri.loop hT))
  have ht:=p17n a0 a1 a2 a3 a4 s
  rw[hS]at ht;exact fin hk (congrArg T.run ht)
def st37(L:List tyF.I)(j:Nat):List (Nat×AV):= [(3, .map 0),(10,encL tyF L),(11, .int .i64 (((L.map tyF.elem).length:Nat):Int)),(12, .int .i64 j)]
theorem p37(L:List tyF.I)(es:List (AV×AV))(m i:Int):obsK (XC 53 [8,13,16,21,26] [clN 52,clD 78]) (fun _=>none) 35 (sub (bodyOf Tryz.f53) [1,1,1,0,1,0,0]) [1,1,1,0,1,0,0] (frm [(3, .map 0),(10,encL tyF L),(11, .int .i64 m),(12, .int .i64 i)]) [.map es] [2,3,10,11,12]=
 ((fun(s0:T (X×List AV×H))=>((fun(s1:T (X×List AV×H))=>((fun(s2:T (X×List AV×H))=>(T.br (decide (i<m)) (T.br (decide ((0:Int)≤i)&&decide (i<(↑(List.map tyF.elem L).length:Int))&&fitsC Tryz.prog (86:Nat) ((List.map tyF.elem L).getD i.toNat undef)) (T.br (askQ (clN (52:FuncId)).2 [AV.str (((List.map tyF.elem L).getD i.toNat undef).cells.getD 0 undef).toS])
 (T.br (!nmA [AV.str (((List.map tyF.elem L).getD i.toNat undef).cells.getD 0 undef).toS]) (T.leaf ((X.ret,[AV.int IntKind.i64 7,AV.map 0,AV.lst 2 (List.map tyF.elem L) Tl.open_,AV.int IntKind.i64 m,AV.int IntKind.i64 i],[Blk.map es,Blk.var [AV.str (((List.map tyF.elem L).getD i.toNat undef).cells.getD 0 undef).toS,AV.str (((List.map tyF.elem L).getD i.toNat undef).cells.getD 1
 undef).toS]]))) (T.br (askQ (clD (78:FuncId)).2 [AV.str (((List.map tyF.elem L).getD i.toNat undef).cells.getD 1 undef).toS]) (T.br (!dsA [AV.str (((List.map tyF.elem L).getD i.toNat undef).cells.getD 1 undef).toS]) (T.leaf ((X.ret,[AV.int IntKind.i64 10,AV.map 0,AV.lst 2 (List.map tyF.elem L) Tl.open_,AV.int IntKind.i64 m,AV.int IntKind.i64 i],[Blk.map es,Blk.var [AV.str (((List.map
 tyF.elem L).getD i.toNat undef).cells.getD 0 undef).toS,AV.str (((List.map tyF.elem L).getD i.toNat undef).cells.getD 1 undef).toS]]))) (T.br (findB Tryz.prog E0.S (9:Nat) (AV.str (((List.map tyF.elem L).getD i.toNat undef).cells.getD 0 undef).toS) es) (T.br (findS Tryz.prog E0.S (9:Nat) (AV.str (((List.map tyF.elem L).getD i.toNat undef).cells.getD 0 undef).toS) es&&(!aggB Tryz.prog (4:
 Nat)&&fits1 Tryz.prog (4:Nat) (findV Tryz.prog E0.S (9:Nat) (AV.str (((List.map tyF.elem L).getD i.toNat undef).cells.getD 0 undef).toS) es))) (T.br ((findV Tryz.prog E0.S (9:Nat) (AV.str (((List.map tyF.elem L).getD i.toNat undef).cells.getD 0 undef).toS) es).toB) s0 s2) T.fail) (T.br (findS Tryz.prog E0.S (9:Nat) (AV.str (((List.map tyF.elem L).getD i.toNat undef).cells.getD 0
 undef).toS) es) (T.br false s0 s2) T.fail))) T.fail)) T.fail) T.fail) (T.leaf ((X.exit 0,[AV.fsl 0 [],AV.map 0,AV.lst 2 (List.map tyF.elem L) Tl.open_,AV.int IntKind.i64 m,AV.int IntKind.i64 i],[Blk.map es]))))) (T.br (putOk Tryz.prog E0.S (9:Nat) (AV.str (((List.map tyF.elem L).getD i.toNat undef).cells.getD 0 undef).toS) es) s1 T.fail))) (T.leaf ((X.normal,[AV.fsl 0 [],AV.map 0,AV.lst
 2 (List.map tyF.elem L) Tl.open_,AV.int IntKind.i64 m,AV.int IntKind.i64 (IntKind.i64.wrap (i+1))],[Blk.map (putM Tryz.prog E0.S 9 (AV.str (((List.map tyF.elem L).getD i.toNat undef).cells.getD 0 undef).toS) (AV.bool true) es),Blk.var [AV.str (((List.map tyF.elem L).getD i.toNat undef).cells.getD 0 undef).toS,AV.str (((List.map tyF.elem L).getD i.toNat undef).cells.getD 1 undef).toS]])))))
 (T.leaf ((X.ret,[AV.int IntKind.i64 8,AV.map 0,AV.lst 2 (List.map tyF.elem L) Tl.open_,AV.int IntKind.i64 m,AV.int IntKind.i64 i],[Blk.map es,Blk.var [AV.str (((List.map tyF.elem L).getD i.toNat undef).cells.getD 0 undef).toS,AV.str (((List.map tyF.elem L).getD i.toNat undef).cells.getD 1 undef).toS]])))):=by kernel_rfl
theorem p37s(L:List tyF.I)(es:List (AV×AV))(e:Int):runV (XN 53 [8,13,16,21,26]) (kAt [1,1,1,0,1] (st37 L 0) [.map []] .ret [(2, .int .i64 e)] [.map es]) Tryz.f53 (bodyOf Tryz.f53) [encL tyF L]=
 (T.br (decide ((16:Int)<(↑(List.map tyF.elem L).length:Int))) (T.leaf (AV.int IntKind.i64 6)) (T.br (askS [AV.map 0,AV.lst 2 (List.map tyF.elem L) Tl.open_,AV.int IntKind.i64 (↑(List.map tyF.elem L).length:Int),AV.int IntKind.i64 (0:Int)] [AV.map 0,AV.lst 2 (List.map tyF.elem L) Tl.open_,AV.int IntKind.i64 (↑(List.map tyF.elem L).length:Int),AV.int IntKind.i64 (↑(0:Nat):Int)]
 [Blk.map []] [Blk.map []]) (T.leaf (AV.int IntKind.i64 e)) T.fail)):=by kernel_rfl
theorem p37n(L:List tyF.I)(es:List (AV×AV)):runV (XN 53 [8,13,16,21,26]) (kAt [1,1,1,0,1] (st37 L 0) [.map []] .normal (st37 L L.length) [.map es]) Tryz.f53 (bodyOf Tryz.f53) [encL tyF L]=
 (T.br (decide ((16:Int)<(↑(List.map tyF.elem L).length:Int))) (T.leaf (AV.int IntKind.i64 6)) (T.br (askS [AV.map 0,AV.lst 2 (List.map tyF.elem L) Tl.open_,AV.int IntKind.i64 (↑(List.map tyF.elem L).length:Int),AV.int IntKind.i64 (0:Int)] [AV.map 0,AV.lst 2 (List.map tyF.elem L) Tl.open_,AV.int IntKind.i64 (↑(List.map tyF.elem L).length:Int),AV.int IntKind.i64 (↑(0:Nat):Int)]
 [Blk.map []] [Blk.map []]) (T.leaf (AV.int IntKind.i64 0)) T.fail)):=by kernel_rfl
theorem p37x(L:List tyF.I):runV (XN 53 [8,13,16,21,26]) (kNo [1,1,1,0,1]) Tryz.f53 (bodyOf Tryz.f53) [encL tyF L]=
 (T.br (decide ((16:Int)<(↑(List.map tyF.elem L).length:Int))) (T.leaf (AV.int IntKind.i64 6)) T.fail):=by kernel_rfl
def dsF(x:tyF.I):ByteArray:=((tyF.elem x).cells.getD 1 undef).toS
noncomputable def fieldE(L:List tyF.I)(j:Nat):Int:=match nmA [.str (nmF (L.getD j tyF.zero))]with
 |false=>7
 |true=>match dsA [.str (dsF (L.getD j tyF.zero))]with
  |false=>10
  |true=>match ask (∃k,k<j∧nmF (L.getD k tyF.zero)=nmF (L.getD j tyF.zero))with
   |true=>8
   |false=>0
noncomputable def fieldsE(L:List tyF.I):Int:=if 16<L.length then 6 else match firstI (fun j=>fieldE L j≠0) L.length with
 |some i=>fieldE L i
 |none=>0
theorem calls37:CallOK (XC 53 [8,13,16,21,26] [clN 52,clD 78]).E (XC 53 [8,13,16,21,26] [clN 52,clD 78]).calls:=callsBy_ok rfl fun c hc=>by
 rcases List.mem_cons.1 hc with rfl|hc
 ·exact clN35
 ·obtain rfl:=List.mem_singleton.1 hc
  exact clD69
theorem renB_set(κ:Nat→Nat)(l:List ByteArray):renB κ (.map (setOf l))= .map (setOf l):=by
 simp only[renB,setOf,List.map_map]
 congr 1
theorem seen37{l:List ByteArray}{τ:Fr}{h:H}{x:X}{vs:List AV}{extra:H}
  (hr:(obsK (XC 53 [8,13,16,21,26] [clN 52,clD 78]) (fun _=>none) 35 (sub (bodyOf Tryz.f53) [1,1,1,0,1,0,0]) [1,1,1,0,1,0,0] τ h [2,3,10,11,12]).run= .ok (x,vs,[.map (setOf l)]++extra)) {sl:List (Nat×AV)}
  (hs: ∀q,q∈sl→frm ([2,3,10,11,12].zip vs) q.1=q.2∧(noRef q.2=true∨q.2= .map 0)∧isFsl q.2=false):Tri E0 35 [] (sub (bodyOf Tryz.f53) [1,1,1,0,1,0,0]) τ h x (frm sl) [.map (setOf l)]:=by
 refine Tri.seenB (X:=XC 53 [8,13,16,21,26] [clN 52,clD 78]) g0 noG0 calls37 KOK.none rfl hr (Nat.zero_le _) (fun b hb=>?_) (fun b hb=>?_) (fun q hq=>?_)
 ·obtain rfl:=List.mem_singleton.1 hb;nofun
 ·obtain rfl:=List.mem_singleton.1 hb;exact renB_set _ l
 ·obtain⟨h1,h2,h3⟩:=hs q hq
  refine⟨h1,?_,h3⟩
  rcases h2 with h2|h2
  ·exact ren_noRef _ _ h2
  ·rw[h2];rfl
set_option maxRecDepth 100000 in
theorem con37(L:List tyF.I)(hl:L.length<1000000000000000)(hok: ∀x,x∈L→tyF.okay x)(h:H):Con E0 53 [encL tyF L] h (.int .i64 (fieldsE L)) h:=by
 have hn:noRefs [encL tyF L]=true:=by simp only[noRefs,encL_noRef,Bool.and_true]
 have hlen:(L.map tyF.elem).length=L.length:=by simp
 have hu:Tryz.prog.underlying 9=some .string:=Tryz.underlying9
 have f0:fitsC Tryz.prog 86 (tyF.elem tyF.zero)=true:=by kernel_rfl
 have fin: ∀{K:Known} {v:Int},KOK E0 35 [] (bodyOf Tryz.f53) K→(runV (XN 53 [8,13,16,21,26]) K Tryz.f53 (bodyOf Tryz.f53) [encL tyF L]).run= .ok (.int .i64 v)→Con E0 53 [encL tyF L] h (.int .i64 v) h:=fun hk hr=>
  Con.pureV (X:=XN 53 [8,13,16,21,26]) g0 noG0 (noCalls fun _ _ _=>rfl) (fn:=Tryz.f53) Tryz.func53 (c:=bodyOf Tryz.f53) rfl rfl (args:= [encL tyF L]) hk hn hr (Le.refl _) rfl h
 by_cases h8:16<L.length
 ·have hR:fieldsE L=6:=if_pos h8
  rw[hR];exact fin (kNo_ok (p:= [1,1,1,0,1])) ((congrArg T.run (p37x L)).trans (bT (decide_eq_true (by rw[hlen];omega)) rfl))
 have hR:fieldsE L=match firstI (fun j=>fieldE L j≠0) L.length with
    |some i=>fieldE L i
    |none=>0:=if_neg h8
 have hmem: ∀j,j<L.length→tyF.okay (L.getD j tyF.zero):=fun j hj=>hok _ (by rw[List.getD_eq_getElem?_getD,List.getElem?_eq_getElem hj];exact List.getElem_mem hj)
 have hqs: ∀j,j<L.length→askQ (clN 52).2 [AV.str ((tyF.elem (L.getD j tyF.zero)).cells.getD 0 undef).toS]=true∧askQ (clD 78).2 [AV.str ((tyF.elem (L.getD j tyF.zero)).cells.getD 1 undef).toS]=true:=fun j hj=>by
  have:=hmem j hj;obtain⟨⟨x0,x1⟩,hx⟩: ∃x:tyF.I,L.getD j tyF.zero=x:=⟨_,rfl⟩
  rw[hx]at this ⊢
  exact⟨ask_true ⟨x0,rfl,this.1⟩,ask_true ⟨x1,rfl,this.2⟩⟩
 have hsl: ∀(x:AV) (j:Nat),∀q,q∈st37 L j→frm ([2,3,10,11,12].zip [x, .map 0,encL tyF L, .int .i64 (((L.map tyF.elem).length:Nat):Int), .int .i64 j]) q.1=q.2∧(noRef q.2=true∨q.2= .map 0)∧isFsl q.2=false:=by
  intro x j q hq;simp only[st37,List.mem_cons,List.not_mem_nil,or_false]at hq
  rcases hq with rfl|rfl|rfl|rfl
  ·exact⟨rfl, .inr rfl,rfl⟩
  ·exact⟨rfl, .inl (encL_noRef _ _),rfl⟩
  ·exact⟨rfl, .inl rfl,rfl⟩
  ·exact⟨rfl, .inl rfl,rfl⟩
 have hrt: ∀(e:Int) (v1 v2 v3 v4:AV),∀q,q∈ [(2,AV.int .i64 e)]→frm ([2,3,10,11,12].zip [.int .i64 e,v1,v2,v3,v4]) q.1=q.2∧(noRef q.2=true∨q.2= .map 0)∧isFsl q.2=false:=by
  intro e v1 v2 v3 v4 q hq;obtain rfl:=List.mem_singleton.1 hq;exact⟨rfl, .inl rfl,rfl⟩
 have hin: ∀j,j<L.length→((∃k,k<j∧nmF (L.getD k tyF.zero)=nmF (L.getD j tyF.zero))↔nmF (L.getD j tyF.zero)∈upto nmF L j):=fun j hj=>(mem_upto (by omega)).symm
 have hT:=find_roundsH (E:=E0) (N:=35) (h0:= []) (c:=sub (bodyOf Tryz.f53) [1,1,1,0,1,0,0]) (p:=fun j=>fieldE L j≠0) (n:=L.length) (st:=st37 L) (hm:=fun j=> [.map (setOf (upto nmF L j))]) (rt:=fun j=> [(2, .int .i64 (fieldE L j))]) (id:=0)
  (fun j hj _ hp=>by
   have hp:fieldE L j=0:=Classical.not_not.1 hp
   have ht:=p37 L (setOf (upto nmF L j)) (((L.map tyF.elem).length:Nat):Int) j
   obtain⟨q1,q2⟩:=hqs j hj;rw[idx_ok hj f0,lt_ok hj,Int.toNat_natCast,getD_elem hj,wrap_next (by omega),q1,q2]at ht;unfold fieldE at hp;split at hp
   ·cases hp
   rename_i hn1;split at hp
   ·cases hp
   rename_i hd1;split at hp
   ·cases hp
   rename_i ha1
   have hni:nmF (L.getD j tyF.zero)∉upto nmF L j:=fun hi=>by rw[ask_true ((hin j hj).2 hi)]at ha1;cases ha1
   obtain⟨s1,s2,s3,s4⟩:=set_out (S:=E0.S) hu hni;have hn1':nmA [AV.str ((tyF.elem (L.getD j tyF.zero)).cells.getD 0 undef).toS]=true:=hn1;have hd1':dsA [AV.str ((tyF.elem (L.getD j tyF.zero)).cells.getD 1 undef).toS]=true:=hd1;have s1':findB Tryz.prog E0.S 9 (.str ((tyF.elem (L.getD j tyF.zero)).cells.getD 0 undef).toS) (setOf (upto nmF L j))=false:=s1;have s2':findS Tryz.prog E0.S 9 (.str ((tyF.elem (L.getD j tyF.zero)).cells.getD 0 undef).toS) (setOf (upto nmF L j))=true:=s2;have s3':putOk Tryz.prog E0.S 9 (.str ((tyF.elem (L.getD j tyF.zero)).cells.getD 0 undef).toS) (setOf (upto nmF L j))=true:=s3
   have s4':putM Tryz.prog E0.S 9 (.str ((tyF.elem (L.getD j tyF.zero)).cells.getD 0 undef).toS) (.bool true) (setOf (upto nmF L j))=setOf (upto nmF L (j+1)):=by rw[upto_next nmF L j tyF.zero hj];exact s4
   rw[hn1',hd1',s1',s2',s3',s4']at ht
   exact seen37 (extra:= [.var _]) (congrArg T.run ht) (hsl _ _))
  (fun j hj _ hp=>by
   have ht:=p37 L (setOf (upto nmF L j)) (((L.map tyF.elem).length:Nat):Int) j
   obtain⟨q1,q2⟩:=hqs j hj;rw[idx_ok hj f0,lt_ok hj,Int.toNat_natCast,getD_elem hj,q1,q2]at ht;show Tri E0 35 [] _ _ _ .ret (frm [(2, .int .i64 (fieldE L j))]) _;have hp:fieldE L j≠0:=hp
   unfold fieldE at hp ⊢
   split at hp
   ·rename_i hn1
    have hn1':nmA [AV.str ((tyF.elem (L.getD j tyF.zero)).cells.getD 0 undef).toS]=false:=hn1;rw[hn1']at ht;exact seen37 (extra:= [.var _]) (congrArg T.run ht) (hrt _ _ _ _ _)
   rename_i hn1;have hn1':nmA [AV.str ((tyF.elem (L.getD j tyF.zero)).cells.getD 0 undef).toS]=true:=hn1;split at hp
   ·rename_i hd1
    have hd1':dsA [AV.str ((tyF.elem (L.getD j tyF.zero)).cells.getD 1 undef).toS]=false:=hd1;rw[hn1',hd1']at ht;exact seen37 (extra:= [.var _]) (congrArg T.run ht) (hrt _ _ _ _ _)
   rename_i hd1;have hd1':dsA [AV.str ((tyF.elem (L.getD j tyF.zero)).cells.getD 1 undef).toS]=true:=hd1;split at hp
   ·rename_i ha1
    obtain⟨s1,s2,s3⟩:=set_in (S:=E0.S) (P:=Tryz.prog) hu ((hin j hj).1 (ask_of ha1));have s1':findB Tryz.prog E0.S 9 (.str ((tyF.elem (L.getD j tyF.zero)).cells.getD 0 undef).toS) (setOf (upto nmF L j))=true:=s1;have s2':findS Tryz.prog E0.S 9 (.str ((tyF.elem (L.getD j tyF.zero)).cells.getD 0 undef).toS) (setOf (upto nmF L j))=true:=s2;have s3':findV Tryz.prog E0.S 9 (.str ((tyF.elem (L.getD j tyF.zero)).cells.getD 0 undef).toS) (setOf (upto nmF L j))= .bool true:=s3
    have hag:(!aggB Tryz.prog 4&&fits1 Tryz.prog 4 (AV.bool true))=true:=by kernel_rfl
    rw[hn1',hd1',s1',s2',s3',hag]at ht;exact seen37 (extra:= [.var _]) (congrArg T.run ht) (hrt _ _ _ _ _)
   ·exact absurd rfl hp)
  (by
   have ht:=p37 L (setOf (upto nmF L L.length)) (((L.map tyF.elem).length:Nat):Int) L.length
   rw[lt_no]at ht
   exact seen37 (extra:= []) (congrArg T.run ht) (hsl _ _))
 have hS:(askS
 [AV.map (0:Nat),AV.lst (2:Nat) (List.map tyF.elem L) Tl.open_,
  AV.int IntKind.i64 (↑(List.map tyF.elem L).length:Int),AV.int IntKind.i64 (0:Int)]
 [AV.map (0:Nat),AV.lst (2:Nat) (List.map tyF.elem L) Tl.open_,
  AV.int IntKind.i64 (↑(List.map tyF.elem L).length:Int),AV.int IntKind.i64 (↑(0:Nat):Int)]
 [Blk.map []] [Blk.map []])=true:=askS_self _ _
 rw[hR]
 cases hf:firstI (fun j=>fieldE L j≠0) L.length with
 |some i=>
  rw[hf]at hT;have hk:KOK E0 35 [] (bodyOf Tryz.f53) (kAt [1,1,1,0,1] (st37 L 0) [.map []] .ret [(2, .int .i64 (fieldE L i))] [.map (setOf (upto nmF L i))]):=kAt_ok (Tri.block (id:=0) (Tri.loop hT));exact fin hk ((congrArg T.run (p37s L _ _)).trans (bF (decide_eq_false (by rw[hlen];omega)) (bT hS rfl)))
 |none=>
  rw[hf]at hT;have hk:KOK E0 35 [] (bodyOf Tryz.f53) (kAt [1,1,1,0,1] (st37 L 0) [.map []] .normal (st37 L L.length) [.map (setOf (upto nmF L L.length))]):=kAt_ok (Tri.block (id:=0) (Tri.loop hT));exact fin hk ((congrArg T.run (p37n L _)).trans (bF (decide_eq_false (by rw[hlen];omega)) (bT hS rfl)))
def st38(C:List tyC.I)(L:List tyM.I)(j:Nat):List (Nat×AV):= [(1,encL tyC C),(5, .map 0),(16,encL tyM L),(17, .int .i64 (((L.map tyM.elem).length:Nat):Int)),(18, .int .i64 j)]
noncomputable def splitOf(s:ByteArray):ByteArray×List ByteArray×Int:=by
 classical exact if h: ∃r,Sp s r then h.choose else(.empty,[],0)
theorem splitOf_sp(s:ByteArray)(hs:s.size≤140737488351232):Sp s (splitOf s):=by
 unfold splitOf;rw[dif_pos (split_ex s hs)];exact(split_ex s hs).choose_spec
noncomputable def sp1:List AV→ByteArray
 | [.str s]=>(splitOf s).1
 |_=> .empty
noncomputable def sp2:List AV→List AV
 | [.str s]=>(splitOf s).2.1.map AV.str
 |_=> []
noncomputable def sp3:List AV→Int
 | [.str s]=>(splitOf s).2.2
 |_=>0
noncomputable def clS(f:FuncId):Cl:=⟨f,okS,fun args=> .tup [.str (sp1 args), .lst 1 (sp2 args) .open_, .int .i64 (sp3 args)]⟩
theorem clS70: ∀args,(clS 79).ok args→ ∀h,Con E0 (clS 79).f args h ((clS 79).res args) h:=by
 rintro args ⟨s,rfl,hs⟩ h;exact(splitOf_sp s hs).1 h
theorem clS72: ∀args,(clS 83).ok args→ ∀h,Con E0 (clS 83).f args h ((clS 83).res args) h:=by
 rintro args ⟨s,rfl,hs⟩ h;exact(splitOf_sp s hs).2.1 h
theorem sp2_len(s:ByteArray)(hs:s.size≤140737488351232):(sp2 [.str s]).length≤6:=by
 show((splitOf s).2.1.map AV.str).length≤6;rw[List.length_map];exact(splitOf_sp s hs).2.2
noncomputable def codeM(C:List tyC.I)(x:tyM.I):Int:=codeE C x.2.2.1 x.2.2.2.1 x.2.2.2.2
noncomputable def codeA(args:List AV):Int:=by
 classical exact if h: ∃v:Int,∃(x:tyM.I) (C:List tyC.I),args= [tyM.elem x,encL tyC C]∧v=codeM C x then h.choose else 0
theorem codeA_eq(C:List tyC.I)(x:tyM.I):codeA [tyM.elem x,encL tyC C]=codeM C x:=by
 have h: ∃v:Int,∃(x':tyM.I) (C':List tyC.I),[tyM.elem x,encL tyC C]= [tyM.elem x',encL tyC C']∧v=codeM C' x':=⟨_,x,C,rfl,rfl⟩;unfold codeA;rw[dif_pos h];obtain⟨x',C',h1,h2⟩:=h.choose_spec;rw[h2];simp only[List.cons.injEq,and_true]at h1;rw[Ty.elem_inj h1.1,encL_inj h1.2]
def okMC(args:List AV):Prop:= ∃(x:tyM.I) (C:List tyC.I),args= [tyM.elem x,encL tyC C]∧tyM.okay x
noncomputable def clC:Cl:=⟨80,okMC,fun args=> .int .i64 (codeA args)⟩
theorem clC71: ∀args,clC.ok args→ ∀h,Con E0 clC.f args h (clC.res args) h:=by
 rintro args ⟨x,C,rfl,hx⟩ h;show Con E0 80 _ h (.int .i64 (codeA [tyM.elem x,encL tyC C])) h;rw[codeA_eq];obtain⟨a0,a1,a2,a3,a4⟩:=x;exact con71 C a0 a1 a2 a3 a4 (Nat.lt_of_le_of_lt hx.2.2.2.1.1 (by decide)) (Nat.lt_of_le_of_lt hx.2.2.2.2.1 (by decide)) hx.2.2.2.2.2 h
def sgM(x:tyM.I):ByteArray:=((tyM.elem x).cells.getD 1 undef).toS
def lcM(x:tyM.I):Int:=((tyM.elem x).cells.getD 2 undef).toI
noncomputable def methodE(C:List tyC.I)(L:List tyM.I)(j:Nat):Int:=match nmA [.str (nmM (L.getD j tyM.zero))]with
 |false=>7
 |true=>match decide (sp3 [.str (sgM (L.getD j tyM.zero))]=0)with
  |false=>5
  |true=>match ask (∃k,k<j∧nmM (L.getD k tyM.zero)=nmM (L.getD j tyM.zero))with
   |true=>8
   |false=>match decide (24<lcM (L.getD j tyM.zero)),decide (lcM (L.getD j tyM.zero)≤((sp2 [.str (sgM (L.getD j tyM.zero))]).length:Int))with
    |false,false=>codeA [tyM.elem (L.getD j tyM.zero),encL tyC C]
    |_,_=>2
noncomputable def methodsE(C:List tyC.I)(L:List tyM.I):Int:=if 32<L.length then 6 else match firstI (fun j=>methodE C L j≠0) L.length with
 |some i=>methodE C L i
 |none=>0
theorem shape_M(x:tyM.I):AV.agg [AV.str ((tyM.elem x).cells.getD 0 undef).toS,AV.str ((tyM.elem x).cells.getD 1 undef).toS,AV.int .i64 ((tyM.elem x).cells.getD 2 undef).toI,AV.lst 2 ((tyM.elem x).cells.getD 3 undef).toL .open_,AV.lst 4 ((tyM.elem x).cells.getD 4 undef).toL .open_]=tyM.elem x:=by
 obtain⟨a0,a1,a2,a3,a4⟩:=x;rfl
theorem p38(C:List tyC.I)(L:List tyM.I)(es:List (AV×AV))(m i:Int):obsK (XC 54 [14,19,25,33,36,41,45,56] [clN 52,clS 79,clC]) (fun _=>none) 62 (sub (bodyOf Tryz.f54) [1,1,1,0,1,0,0]) [1,1,1,0,1,0,0] (frm [(1,encL tyC C),(5, .map 0),(16,encL tyM L),(17, .int .i64 m),(18, .int .i64 i)]) [.map es] [1,4,5,16,17,18]=
 ((fun(s0:T (X×List AV×H))=>((fun(s1:T (X×List AV×H))=>((fun(s2:T (X×List AV×H))=>((fun(s3:T (X×List AV×H))=>((fun(s4:T (X×List AV×H))=>((fun(s5:T (X×List AV×H))=>((fun(s6:T (X×List AV×H))=>((fun(s7:T (X×List AV×H))=>(T.br (decide (i<m)) (T.br (decide ((0:Int)≤i)&&decide (i<(↑(List.map tyM.elem L).length:Int))&&
 fitsC Tryz.prog (41:Nat) ((List.map tyM.elem L).getD i.toNat undef)) (T.br (askQ (clN (52:FuncId)).2 [AV.str (((List.map tyM.elem L).getD i.toNat undef).cells.getD 0 undef).toS]) (T.br (!nmA [AV.str (((List.map tyM.elem L).getD i.toNat undef).cells.getD 0 undef).toS]) (T.leaf ((X.ret,[AV.lst 5 (List.map tyC.elem C) Tl.open_,AV.int IntKind.i64 7,AV.map 0,AV.lst 5 (List.map tyM.elem L)
 Tl.open_,AV.int IntKind.i64 m,AV.int IntKind.i64 i],[Blk.map es,Blk.var [AV.str (((List.map tyM.elem L).getD i.toNat undef).cells.getD 0 undef).toS,AV.str (((List.map tyM.elem L).getD i.toNat undef).cells.getD 1 undef).toS,AV.int IntKind.i64 (((List.map tyM.elem L).getD i.toNat undef).cells.getD 2 undef).toI,AV.lst 2 (((List.map tyM.elem L).getD i.toNat undef).cells.getD 3 undef).toL
 Tl.open_,AV.lst 4 (((List.map tyM.elem L).getD i.toNat undef).cells.getD 4 undef).toL Tl.open_]]))) (T.br (askQ (clS (79:FuncId)).2 [AV.str (((List.map tyM.elem L).getD i.toNat undef).cells.getD 1 undef).toS]) (T.br (!decide (sp3 [AV.str (((List.map tyM.elem L).getD i.toNat undef).cells.getD 1 undef).toS]=(0:Int))) (T.leaf ((X.ret,[AV.lst 5 (List.map tyC.elem C) Tl.open_,AV.int IntKind.i64
 5,AV.map 0,AV.lst 5 (List.map tyM.elem L) Tl.open_,AV.int IntKind.i64 m,AV.int IntKind.i64 i],[Blk.map es,Blk.var [AV.str (((List.map tyM.elem L).getD i.toNat undef).cells.getD 0 undef).toS,AV.str (((List.map tyM.elem L).getD i.toNat undef).cells.getD 1 undef).toS,AV.int IntKind.i64 (((List.map tyM.elem L).getD i.toNat undef).cells.getD 2 undef).toI,AV.lst 2 (((List.map tyM.elem L).getD
 i.toNat undef).cells.getD 3 undef).toL Tl.open_,AV.lst 4 (((List.map tyM.elem L).getD i.toNat undef).cells.getD 4 undef).toL Tl.open_]]))) (T.br (findB Tryz.prog E0.S (9:Nat) (AV.str (((List.map tyM.elem L).getD i.toNat undef).cells.getD 0 undef).toS) es) (T.br (findS Tryz.prog E0.S (9:Nat) (AV.str (((List.map tyM.elem L).getD i.toNat undef).cells.getD 0 undef).toS) es&&(!aggB Tryz.prog (4:
 Nat)&&fits1 Tryz.prog (4:Nat) (findV Tryz.prog E0.S (9:Nat) (AV.str (((List.map tyM.elem L).getD i.toNat undef).cells.getD 0 undef).toS) es))) (T.br ((findV Tryz.prog E0.S (9:Nat) (AV.str (((List.map tyM.elem L).getD i.toNat undef).cells.getD 0 undef).toS) es).toB) s0 (T.br (decide ((24:Int)<(((List.map tyM.elem L).getD i.toNat undef).cells.getD 2 undef).toI)) (T.br true s1 s6) s7))
 T.fail) (T.br (findS Tryz.prog E0.S (9:Nat) (AV.str (((List.map tyM.elem L).getD i.toNat undef).cells.getD 0 undef).toS) es) (T.br false s0 (T.br (decide ((24:Int)<(((List.map tyM.elem L).getD i.toNat undef).cells.getD 2 undef).toI)) (T.br true s1 s6) s7)) T.fail))) T.fail)) T.fail) T.fail) (T.leaf ((X.exit 0,[AV.lst 5 (List.map tyC.elem C) Tl.open_,AV.fsl 0 [],AV.map 0,AV.lst 5 (List.map
 tyM.elem L) Tl.open_,AV.int IntKind.i64 m,AV.int IntKind.i64 i],[Blk.map es]))))) (T.br (decide ((((List.map tyM.elem L).getD i.toNat undef).cells.getD 2 undef).toI≤(↑(sp2 [AV.str (((List.map tyM.elem L).getD i.toNat undef).cells.getD 1 undef).toS]).length:Int))) s1 s6))) (T.br (askQ clC.2 [AV.agg [AV.str (((List.map tyM.elem L).getD i.toNat undef).cells.getD 0 undef).toS,AV.str (((List.map
 tyM.elem L).getD i.toNat undef).cells.getD 1 undef).toS,AV.int IntKind.i64 (((List.map tyM.elem L).getD i.toNat undef).cells.getD 2 undef).toI,AV.lst 2 (((List.map tyM.elem L).getD i.toNat undef).cells.getD 3 undef).toL Tl.open_,AV.lst 4 (((List.map tyM.elem L).getD i.toNat undef).cells.getD 4 undef).toL Tl.open_],AV.lst 5 (List.map tyC.elem C) Tl.open_]) s5 T.fail))) (T.br (!decide (codeA
 [AV.agg [AV.str (((List.map tyM.elem L).getD i.toNat undef).cells.getD 0 undef).toS,AV.str (((List.map tyM.elem L).getD i.toNat undef).cells.getD 1 undef).toS,AV.int IntKind.i64 (((List.map tyM.elem L).getD i.toNat undef).cells.getD 2 undef).toI,AV.lst 2 (((List.map tyM.elem L).getD i.toNat undef).cells.getD 3 undef).toL Tl.open_,AV.lst 4 (((List.map tyM.elem L).getD i.toNat undef).cells.getD 4
 undef).toL Tl.open_],AV.lst 5 (List.map tyC.elem C) Tl.open_]=(0:Int))) s4 s3))) (T.leaf ((X.ret,[AV.lst 5 (List.map tyC.elem C) Tl.open_,AV.int IntKind.i64 (codeA [AV.agg [AV.str (((List.map tyM.elem L).getD i.toNat undef).cells.getD 0 undef).toS,AV.str (((List.map tyM.elem L).getD i.toNat undef).cells.getD 1 undef).toS,AV.int IntKind.i64 (((List.map tyM.elem L).getD i.toNat
 undef).cells.getD 2 undef).toI,AV.lst 2 (((List.map tyM.elem L).getD i.toNat undef).cells.getD 3 undef).toL Tl.open_,AV.lst 4 (((List.map tyM.elem L).getD i.toNat undef).cells.getD 4 undef).toL Tl.open_],AV.lst 5 (List.map tyC.elem C) Tl.open_]),AV.map 0,AV.lst 5 (List.map tyM.elem L) Tl.open_,AV.int IntKind.i64 m,AV.int IntKind.i64 i],[Blk.map es,Blk.var [AV.str (((List.map tyM.elem
 L).getD i.toNat undef).cells.getD 0 undef).toS,AV.str (((List.map tyM.elem L).getD i.toNat undef).cells.getD 1 undef).toS,AV.int IntKind.i64 (((List.map tyM.elem L).getD i.toNat undef).cells.getD 2 undef).toI,AV.lst 2 (((List.map tyM.elem L).getD i.toNat undef).cells.getD 3 undef).toL Tl.open_,AV.lst 4 (((List.map tyM.elem L).getD i.toNat undef).cells.getD 4 undef).toL Tl.open_]]))))) (T.br
 (putOk Tryz.prog E0.S (9:Nat) (AV.str (((List.map tyM.elem L).getD i.toNat undef).cells.getD 0 undef).toS) es) s2 T.fail))) (T.leaf ((X.normal,[AV.lst 5 (List.map tyC.elem C) Tl.open_,AV.fsl 0 [],AV.map 0,AV.lst 5 (List.map tyM.elem L) Tl.open_,AV.int IntKind.i64 m,AV.int IntKind.i64 (IntKind.i64.wrap (i+1))],[Blk.map (putM Tryz.prog E0.S 9 (AV.str (((List.map tyM.elem L).getD i.toNat
 undef).cells.getD 0 undef).toS) (AV.bool true) es),Blk.var [AV.str (((List.map tyM.elem L).getD i.toNat undef).cells.getD 0 undef).toS,AV.str (((List.map tyM.elem L).getD i.toNat undef).cells.getD 1 undef).toS,AV.int IntKind.i64 (((List.map tyM.elem L).getD i.toNat undef).cells.getD 2 undef).toI,AV.lst 2 (((List.map tyM.elem L).getD i.toNat undef).cells.getD 3 undef).toL Tl.open_,AV.lst 4
 (((List.map tyM.elem L).getD i.toNat undef).cells.getD 4 undef).toL Tl.open_]]))))) (T.leaf ((X.ret,[AV.lst 5 (List.map tyC.elem C) Tl.open_,AV.int IntKind.i64 2,AV.map 0,AV.lst 5 (List.map tyM.elem L) Tl.open_,AV.int IntKind.i64 m,AV.int IntKind.i64 i],[Blk.map es,Blk.var [AV.str (((List.map tyM.elem L).getD i.toNat undef).cells.getD 0 undef).toS,AV.str (((List.map tyM.elem L).getD
 i.toNat undef).cells.getD 1 undef).toS,AV.int IntKind.i64 (((List.map tyM.elem L).getD i.toNat undef).cells.getD 2 undef).toI,AV.lst 2 (((List.map tyM.elem L).getD i.toNat undef).cells.getD 3 undef).toL Tl.open_,AV.lst 4 (((List.map tyM.elem L).getD i.toNat undef).cells.getD 4 undef).toL Tl.open_]]))))) (T.leaf ((X.ret,[AV.lst 5 (List.map tyC.elem C) Tl.open_,AV.int IntKind.i64 8,AV.map 0,
 AV.lst 5 (List.map tyM.elem L) Tl.open_,AV.int IntKind.i64 m,AV.int IntKind.i64 i],[Blk.map es,Blk.var [AV.str (((List.map tyM.elem L).getD i.toNat undef).cells.getD 0 undef).toS,AV.str (((List.map tyM.elem L).getD i.toNat undef).cells.getD 1 undef).toS,AV.int IntKind.i64 (((List.map tyM.elem L).getD i.toNat undef).cells.getD 2 undef).toI,AV.lst 2 (((List.map tyM.elem L).getD i.toNat
 undef).cells.getD 3 undef).toL Tl.open_,AV.lst 4 (((List.map tyM.elem L).getD i.toNat undef).cells.getD 4 undef).toL Tl.open_]])))):=by kernel_rfl
theorem p38s(C:List tyC.I)(L:List tyM.I)(es:List (AV×AV))(e:Int):runV (XN 54 [14,19,25,33,36,41,45,56]) (kAt [1,1,1,0,1] (st38 C L 0) [.map []] .ret [(4, .int .i64 e)] [.map es]) Tryz.f54 (bodyOf Tryz.f54) [encL tyM L,encL tyC C]=
 (T.br (decide ((32:Int)<(↑(List.map tyM.elem L).length:Int))) (T.leaf (AV.int IntKind.i64 6)) (T.br (askS [AV.lst 5 (List.map tyC.elem C) Tl.open_,AV.map 0,AV.lst 5 (List.map tyM.elem L) Tl.open_,AV.int IntKind.i64 (↑(List.map tyM.elem L).length:Int),AV.int IntKind.i64 (0:Int)] [AV.lst 5 (List.map tyC.elem C) Tl.open_,AV.map 0,AV.lst 5 (List.map tyM.elem L) Tl.open_,AV.int
 IntKind.i64 (↑(List.map tyM.elem L).length:Int),AV.int IntKind.i64 (↑(0:Nat):Int)] [Blk.map []] [Blk.map []]) (T.leaf (AV.int IntKind.i64 e)) T.fail)):=by kernel_rfl
theorem p38n(C:List tyC.I)(L:List tyM.I)(es:List (AV×AV)):runV (XN 54 [14,19,25,33,36,41,45,56]) (kAt [1,1,1,0,1] (st38 C L 0) [.map []] .normal (st38 C L L.length) [.map es]) Tryz.f54 (bodyOf Tryz.f54) [encL tyM L,encL tyC C]=
 (T.br (decide ((32:Int)<(↑(List.map tyM.elem L).length:Int))) (T.leaf (AV.int IntKind.i64 6)) (T.br (askS [AV.lst 5 (List.map tyC.elem C) Tl.open_,AV.map 0,AV.lst 5 (List.map tyM.elem L) Tl.open_,AV.int IntKind.i64 (↑(List.map tyM.elem L).length:Int),AV.int IntKind.i64 (0:Int)] [AV.lst 5 (List.map tyC.elem C) Tl.open_,AV.map 0,AV.lst 5 (List.map tyM.elem L) Tl.open_,AV.int
 IntKind.i64 (↑(List.map tyM.elem L).length:Int),AV.int IntKind.i64 (↑(0:Nat):Int)] [Blk.map []] [Blk.map []]) (T.leaf (AV.int IntKind.i64 0)) T.fail)):=by kernel_rfl
theorem p38x(C:List tyC.I)(L:List tyM.I):runV (XN 54 [14,19,25,33,36,41,45,56]) (kNo [1,1,1,0,1]) Tryz.f54 (bodyOf Tryz.f54) [encL tyM L,encL tyC C]=
 (T.br (decide ((32:Int)<(↑(List.map tyM.elem L).length:Int))) (T.leaf (AV.int IntKind.i64 6)) T.fail):=by kernel_rfl
theorem calls38:CallOK (XC 54 [14,19,25,33,36,41,45,56] [clN 52,clS 79,clC]).E (XC 54 [14,19,25,33,36,41,45,56] [clN 52,clS 79,clC]).calls:=callsBy_ok rfl fun c hc=>by
 rcases List.mem_cons.1 hc with rfl|hc
 ·exact clN35
 rcases List.mem_cons.1 hc with rfl|hc
 ·exact clS70
 ·obtain rfl:=List.mem_singleton.1 hc
  exact clC71
theorem seen38{l:List ByteArray}{τ:Fr}{h:H}{x:X}{vs:List AV}{extra:H}
  (hr:(obsK (XC 54 [14,19,25,33,36,41,45,56] [clN 52,clS 79,clC]) (fun _=>none) 62 (sub (bodyOf Tryz.f54) [1,1,1,0,1,0,0]) [1,1,1,0,1,0,0] τ h [1,4,5,16,17,18]).run= .ok (x,vs,[.map (setOf l)]++extra)) {sl:List (Nat×AV)}
  (hs: ∀q,q∈sl→frm ([1,4,5,16,17,18].zip vs) q.1=q.2∧(noRef q.2=true∨q.2= .map 0)∧isFsl q.2=false):Tri E0 62 [] (sub (bodyOf Tryz.f54) [1,1,1,0,1,0,0]) τ h x (frm sl) [.map (setOf l)]:=by
 refine Tri.seenB (X:=XC 54 [14,19,25,33,36,41,45,56] [clN 52,clS 79,clC]) g0 noG0 calls38 KOK.none rfl hr (Nat.zero_le _) (fun b hb=>?_) (fun b hb=>?_) (fun q hq=>?_)
 ·obtain rfl:=List.mem_singleton.1 hb;nofun
 ·obtain rfl:=List.mem_singleton.1 hb;exact renB_set _ l
 ·obtain⟨h1,h2,h3⟩:=hs q hq
  refine⟨h1,?_,h3⟩
  rcases h2 with h2|h2
  ·exact ren_noRef _ _ h2
  ·rw[h2];rfl
set_option maxRecDepth 100000 in
theorem con38(C:List tyC.I)(L:List tyM.I)(hl:L.length<1000000000000000)(hok: ∀x,x∈L→tyM.okay x)(h:H):Con E0 54 [encL tyM L,encL tyC C] h (.int .i64 (methodsE C L)) h:=by
 have hn:noRefs [encL tyM L,encL tyC C]=true:=by simp only[noRefs,encL_noRef,Bool.and_true]
 have hlen:(L.map tyM.elem).length=L.length:=by simp
 have hu:Tryz.prog.underlying 9=some .string:=Tryz.underlying9
 have f0:fitsC Tryz.prog 41 (tyM.elem tyM.zero)=true:=by kernel_rfl
 have fin: ∀{K:Known} {v:Int},KOK E0 62 [] (bodyOf Tryz.f54) K→(runV (XN 54 [14,19,25,33,36,41,45,56]) K Tryz.f54 (bodyOf Tryz.f54) [encL tyM L,encL tyC C]).run= .ok (.int .i64 v)→Con E0 54 [encL tyM L,encL tyC C] h (.int .i64 v) h:=fun hk hr=>
  Con.pureV (X:=XN 54 [14,19,25,33,36,41,45,56]) g0 noG0 (noCalls fun _ _ _=>rfl) (fn:=Tryz.f54) Tryz.func54 (c:=bodyOf Tryz.f54) rfl rfl (args:= [encL tyM L,encL tyC C]) hk hn hr (Le.refl _) rfl h
 by_cases h8:32<L.length
 ·have hR:methodsE C L=6:=if_pos h8
  rw[hR];exact fin (kNo_ok (p:= [1,1,1,0,1])) ((congrArg T.run (p38x C L)).trans (bT (decide_eq_true (by rw[hlen];omega)) rfl))
 have hR:methodsE C L=match firstI (fun j=>methodE C L j≠0) L.length with
    |some i=>methodE C L i
    |none=>0:=if_neg h8
 have hmem: ∀j,j<L.length→tyM.okay (L.getD j tyM.zero):=fun j hj=>hok _ (by rw[List.getD_eq_getElem?_getD,List.getElem?_eq_getElem hj];exact List.getElem_mem hj)
 have hqs: ∀j,j<L.length→askQ (clN 52).2 [AV.str ((tyM.elem (L.getD j tyM.zero)).cells.getD 0 undef).toS]=true∧askQ (clS 79).2 [AV.str ((tyM.elem (L.getD j tyM.zero)).cells.getD 1 undef).toS]=true∧askQ clC.2 [tyM.elem (L.getD j tyM.zero),AV.lst 5 (List.map tyC.elem C) Tl.open_]=true:=fun j hj=>by
  have:=hmem j hj;obtain⟨⟨x0,x1,x2,x3,x4⟩,hx⟩: ∃x:tyM.I,L.getD j tyM.zero=x:=⟨_,rfl⟩
  rw[hx]at this ⊢
  exact⟨ask_true ⟨x0,rfl,this.1⟩,ask_true ⟨x1,rfl,this.2.1⟩,ask_true ⟨_,C,rfl,this⟩⟩
 have hsl: ∀(x:AV) (j:Nat),∀q,q∈st38 C L j→frm ([1,4,5,16,17,18].zip [encL tyC C,x, .map 0,encL tyM L, .int .i64 (((L.map tyM.elem).length:Nat):Int), .int .i64 j]) q.1=q.2∧(noRef q.2=true∨q.2= .map 0)∧isFsl q.2=false:=by
  intro x j q hq;simp only[st38,List.mem_cons,List.not_mem_nil,or_false]at hq
  rcases hq with rfl|rfl|rfl|rfl|rfl
  ·exact⟨rfl, .inl (encL_noRef _ _),rfl⟩
  ·exact⟨rfl, .inr rfl,rfl⟩
  ·exact⟨rfl, .inl (encL_noRef _ _),rfl⟩
  ·exact⟨rfl, .inl rfl,rfl⟩
  ·exact⟨rfl, .inl rfl,rfl⟩
 have hrt: ∀(e:Int) (v1 v2 v3 v4 v5:AV),∀q,q∈ [(4,AV.int .i64 e)]→frm ([1,4,5,16,17,18].zip [v1, .int .i64 e,v2,v3,v4,v5]) q.1=q.2∧(noRef q.2=true∨q.2= .map 0)∧isFsl q.2=false:=by
  intro e v1 v2 v3 v4 v5 q hq;obtain rfl:=List.mem_singleton.1 hq;exact⟨rfl, .inl rfl,rfl⟩
 have hin: ∀j,j<L.length→((∃k,k<j∧nmM (L.getD k tyM.zero)=nmM (L.getD j tyM.zero))↔nmM (L.getD j tyM.zero)∈upto nmM L j):=fun j hj=>(mem_upto (by omega)).symm
 have hrun: ∀j,j<L.length→ ∃x,(match methodE C L j with
   |0=>(obsK (XC 54 [14,19,25,33,36,41,45,56] [clN 52,clS 79,clC]) (fun _=>none) 62 (sub (bodyOf Tryz.f54) [1,1,1,0,1,0,0]) [1,1,1,0,1,0,0] (frm (st38 C L j)) [.map (setOf (upto nmM L j))] [1,4,5,16,17,18]).run= .ok (.normal,[encL tyC C, .fsl 0 [], .map 0,encL tyM L, .int .i64 (((L.map tyM.elem).length:Nat):Int), .int .i64 ((j+1:Nat):Int)],[.map (setOf (upto nmM L (j+1))),x])
   |e=>(obsK (XC 54 [14,19,25,33,36,41,45,56] [clN 52,clS 79,clC]) (fun _=>none) 62 (sub (bodyOf Tryz.f54) [1,1,1,0,1,0,0]) [1,1,1,0,1,0,0] (frm (st38 C L j)) [.map (setOf (upto nmM L j))] [1,4,5,16,17,18]).run= .ok (.ret,[encL tyC C, .int .i64 e, .map 0,encL tyM L, .int .i64 (((L.map tyM.elem).length:Nat):Int), .int .i64 j],[.map (setOf (upto nmM L j)),x])):=fun j hj=>by
  have ht:=p38 C L (setOf (upto nmM L j)) (((L.map tyM.elem).length:Nat):Int) j
  obtain⟨q1,q2,q3⟩:=hqs j hj;rw[idx_ok hj f0,lt_ok hj,Int.toNat_natCast,getD_elem hj,wrap_next (by omega),shape_M,q1,q2,q3]at ht
  have hag:(!aggB Tryz.prog 4&&fits1 Tryz.prog 4 (AV.bool true))=true:=by kernel_rfl
  have fb: ∀b:Bool,(ask (∃k,k<j∧nmM (L.getD k tyM.zero)=nmM (L.getD j tyM.zero))=b)→findB Tryz.prog E0.S 9 (.str ((tyM.elem (L.getD j tyM.zero)).cells.getD 0 undef).toS) (setOf (upto nmM L j))=b:=fun b hb=>by
   cases b with
   |true=>exact(set_in (S:=E0.S) (P:=Tryz.prog) hu ((hin j hj).1 (ask_of hb))).1
   |false=>exact(set_out (S:=E0.S) hu (fun hi=>by rw[ask_true ((hin j hj).2 hi)]at hb;cases hb)).1
  have fs:findS Tryz.prog E0.S 9 (.str ((tyM.elem (L.getD j tyM.zero)).cells.getD 0 undef).toS) (setOf (upto nmM L j))=true:=by
   by_cases hi:nmM (L.getD j tyM.zero)∈upto nmM L j
   ·exact(set_in (S:=E0.S) (P:=Tryz.prog) hu hi).2.1
   ·exact(set_out (S:=E0.S) hu hi).2.1
  unfold methodE;have n1:nmA [AV.str (nmM (L.getD j tyM.zero))]=nmA [AV.str ((tyM.elem (L.getD j tyM.zero)).cells.getD 0 undef).toS]:=rfl;have n2:decide (sp3 [AV.str (sgM (L.getD j tyM.zero))]=0)=decide (sp3 [AV.str ((tyM.elem (L.getD j tyM.zero)).cells.getD 1 undef).toS]=0):=rfl;have n3:decide (24<lcM (L.getD j tyM.zero))=decide ((24:Int)<((tyM.elem (L.getD j tyM.zero)).cells.getD 2 undef).toI):=rfl;have n4:decide (lcM (L.getD j tyM.zero)≤((sp2 [AV.str (sgM (L.getD j tyM.zero))]).length:Int))=decide (((tyM.elem (L.getD j tyM.zero)).cells.getD 2 undef).toI≤((sp2 [AV.str ((tyM.elem (L.getD j tyM.zero)).cells.getD 1 undef).toS]).length:Int)):=rfl
  rw[n1,n2,n3,n4]
  cases ha:ask (∃k,k<j∧nmM (L.getD k tyM.zero)=nmM (L.getD j tyM.zero))with
  |true=>
   have fv:findV Tryz.prog E0.S 9 (.str ((tyM.elem (L.getD j tyM.zero)).cells.getD 0 undef).toS) (setOf (upto nmM L j))= .bool true:=(set_in (S:=E0.S) (P:=Tryz.prog) hu ((hin j hj).1 (ask_of ha))).2.2;rw[fb true ha,fs,fv,hag]at ht
   generalize nmA [AV.str ((tyM.elem (L.getD j tyM.zero)).cells.getD 0 undef).toS]=c1 at ht ⊢
   generalize decide (sp3 [AV.str ((tyM.elem (L.getD j tyM.zero)).cells.getD 1 undef).toS]=0)=c2 at ht ⊢
   cases c1<;>cases c2<;>exact⟨_,congrArg T.run ht⟩
  |false=>
   have hni:nmM (L.getD j tyM.zero)∉upto nmM L j:=fun hi=>by rw[ask_true ((hin j hj).2 hi)]at ha;cases ha
   have po:putOk Tryz.prog E0.S 9 (.str ((tyM.elem (L.getD j tyM.zero)).cells.getD 0 undef).toS) (setOf (upto nmM L j))=true:=(set_out (S:=E0.S) hu hni).2.2.1
   have pm:putM Tryz.prog E0.S 9 (.str ((tyM.elem (L.getD j tyM.zero)).cells.getD 0 undef).toS) (.bool true) (setOf (upto nmM L j))=setOf (upto nmM L (j+1)):=by rw[upto_next nmM L j tyM.zero hj];exact(set_out (S:=E0.S) hu hni).2.2.2
   rw[fb false ha,fs,po,pm]at ht;have k0:codeA [tyM.elem (L.getD j tyM.zero),AV.lst 5 (List.map tyC.elem C) Tl.open_]=codeA [tyM.elem (L.getD j tyM.zero),encL tyC C]:=rfl;rw[k0]at ht
   generalize nmA [AV.str ((tyM.elem (L.getD j tyM.zero)).cells.getD 0 undef).toS]=c1 at ht ⊢
   generalize decide (sp3 [AV.str ((tyM.elem (L.getD j tyM.zero)).cells.getD 1 undef).toS]=0)=c2 at ht ⊢
   generalize decide ((24:Int)<((tyM.elem (L.getD j tyM.zero)).cells.getD 2 undef).toI)=c3 at ht ⊢
   generalize decide (((tyM.elem (L.getD j tyM.zero)).cells.getD 2 undef).toI≤((sp2 [AV.str ((tyM.elem (L.getD j tyM.zero)).cells.getD 1 undef).toS]).length:Int))=c4 at ht ⊢
   generalize codeA [tyM.elem (L.getD j tyM.zero),encL tyC C]=e at ht ⊢
   cases c1 with
   |false=>exact⟨_,congrArg T.run ht⟩
   |true=>cases c2 with
    |false=>exact⟨_,congrArg T.run ht⟩
    |true=>cases c3 with
     |true=>cases c4<;>exact⟨_,congrArg T.run ht⟩
     |false=>cases c4 with
      |true=>exact⟨_,congrArg T.run ht⟩
      |false=>
       by_cases h0:e=0
       ·subst h0
        exact⟨_,congrArg T.run ht⟩
       ·rw[decide_eq_false h0]at ht
        show∃x,(match e with
         |0=>_
         |e=>_)
        split
        ·exact absurd rfl h0
        ·exact⟨_,congrArg T.run ht⟩
 have hT:=find_roundsH (E:=E0) (N:=62) (h0:= []) (c:=sub (bodyOf Tryz.f54) [1,1,1,0,1,0,0]) (p:=fun j=>methodE C L j≠0) (n:=L.length) (st:=st38 C L) (hm:=fun j=> [.map (setOf (upto nmM L j))]) (rt:=fun j=> [(4, .int .i64 (methodE C L j))]) (id:=0)
  (fun j hj _ hp=>by
   have hp:methodE C L j=0:=Classical.not_not.1 hp;obtain⟨x,hr⟩:=hrun j hj;rw[hp]at hr
   exact seen38 (extra:= [x]) hr (hsl _ _))
  (fun j hj _ hp=>by
   obtain⟨x,hr⟩:=hrun j hj;split at hr
   ·rename_i h0;exact absurd h0 hp
   ·exact seen38 (extra:= [x]) hr (hrt _ _ _ _ _ _))
  (by
   have ht:=p38 C L (setOf (upto nmM L L.length)) (((L.map tyM.elem).length:Nat):Int) L.length
   rw[lt_no]at ht
   exact seen38 (extra:= []) (congrArg T.run ht) (hsl _ _))
 have hS:(askS
 [AV.lst (5:Nat) (List.map tyC.elem C) Tl.open_,AV.map (0:Nat),AV.lst (5:Nat) (List.map tyM.elem L) Tl.open_,
  AV.int IntKind.i64 (↑(List.map tyM.elem L).length:Int),AV.int IntKind.i64 (0:Int)]
 [AV.lst (5:Nat) (List.map tyC.elem C) Tl.open_,AV.map (0:Nat),AV.lst (5:Nat) (List.map tyM.elem L) Tl.open_,
  AV.int IntKind.i64 (↑(List.map tyM.elem L).length:Int),AV.int IntKind.i64 (↑(0:Nat):Int)]
 [Blk.map []] [Blk.map []])=true:=askS_self _ _
 rw[hR]
 cases hf:firstI (fun j=>methodE C L j≠0) L.length with
 |some i=>
  rw[hf]at hT;have hk:KOK E0 62 [] (bodyOf Tryz.f54) (kAt [1,1,1,0,1] (st38 C L 0) [.map []] .ret [(4, .int .i64 (methodE C L i))] [.map (setOf (upto nmM L i))]):=kAt_ok (Tri.block (id:=0) (Tri.loop hT));exact fin hk ((congrArg T.run (p38s C L _ _)).trans (bF (decide_eq_false (by rw[hlen];omega)) (bT hS rfl)))
 |none=>
  rw[hf]at hT;have hk:KOK E0 62 [] (bodyOf Tryz.f54) (kAt [1,1,1,0,1] (st38 C L 0) [.map []] .normal (st38 C L L.length) [.map (setOf (upto nmM L L.length))]):=kAt_ok (Tri.block (id:=0) (Tri.loop hT));exact fin hk ((congrArg T.run (p38n C L _)).trans (bF (decide_eq_false (by rw[hlen];omega)) (bT hS rfl)))
end Go.Proofs.YtaooangghieljaaGreatDoor.AM
