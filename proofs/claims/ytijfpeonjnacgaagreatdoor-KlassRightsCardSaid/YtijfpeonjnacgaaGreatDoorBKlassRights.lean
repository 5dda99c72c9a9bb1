-- SQUEEZED
/- KlassRights: whether a class can be, and where fields and methods stand: the program's answers and the document's are the same; each function by the symbolic machine's tree of it, loops by induction. -/
import Derived.Test.YtijfpeonjnacgaaGreatDoorB0
import Derived.Test.YtijfpeonjnacgaaGreatDoorBPool
import Derived.Test.YtijfpeonjnacgaaGreatDoorA25
import Derived.Test.YtijfpeonjnacgaaGreatDoorRows
import Derived.LaidSub
import Derived.WideShapes
namespace Go.Proofs.YtijfpeonjnacgaaGreatDoor.AM
open Go Go.Proofs Go.RowKit Go.WideShapes
set_option linter.unusedVariables false
set_option linter.unusedSimpArgs false
def st8(j:Nat)(n:Int):List (Nat×AV):= [(1, .ptr 0 0),(3, .int .i64 n),(4, .int .i64 j)]
theorem p8s(a0 a1:ByteArray)(a2:List tyC.I)(a3:List tyF.I)(a4:List tyM.I)(n i:Int):obsK (XN 8 [9,15,20,25,36,45]) (fun _=>none) 57 (sub (bodyOf Tryz.f8) [1,1,1,0,1,0,0]) [1,1,1,0,1,0,0] (frm [(1, .ptr 0 0),(3, .int .i64 n),(4, .int .i64 i)]) [.var [.str a0, .str a1,encL tyC a2,encL tyF a3,encL tyM a4]] [1,2,3,4]=
 ((fun(s0:T (X×List AV×H))=>((fun(s1:T (X×List AV×H))=>((fun(s2:T (X×List AV×H))=>(T.br (decide (i<(↑(List.map tyM.elem a4).length:Int))) (T.br (decide ((0:Int)≤i)&&decide (i<(↑(List.map tyM.elem a4).length:Int))&&fitsC Tryz.prog (51:Nat) ((List.map tyM.elem a4).getD i.toNat undef)) (T.br (decide ((600:Int)<(↑(((List.map tyM.elem a4).getD i.toNat
 undef).cells.getD 3 undef).toL.length:Int))) (T.br true s0 s2) (T.br (decide ((0:Int)≤i)&&decide (i<(↑(List.map tyM.elem a4).length:Int))&&fitsC Tryz.prog (51:Nat) ((List.map tyM.elem a4).getD i.toNat undef)) (T.br (decide ((20:Int)<(↑(((List.map tyM.elem a4).getD i.toNat undef).cells.getD 4 undef).toL.length:Int))) s0 s2) T.fail)) T.fail) (T.leaf ((X.exit 0,[AV.ptr 0 0,
 AV.fsl 0 [],AV.int IntKind.i64 n,AV.int IntKind.i64 i],[Blk.var [AV.str a0,AV.str a1,AV.lst 5 (List.map tyC.elem a2) Tl.open_,AV.lst 2 (List.map tyF.elem a3) Tl.open_,AV.lst 5 (List.map tyM.elem a4) Tl.open_]]))))) (T.br (decide ((0:Int)≤i)&&decide (i<(↑(List.map tyM.elem a4).length:Int))&&fitsC Tryz.prog (51:Nat) ((List.map tyM.elem a4).getD i.toNat undef)) s1 T.fail)))
 (T.leaf ((X.normal,[AV.ptr 0 0,AV.fsl 0 [],AV.int IntKind.i64 (IntKind.i64.wrap (n+(↑(((List.map tyM.elem a4).getD i.toNat undef).cells.getD 3 undef).toL.length:Int))),AV.int IntKind.i64 (IntKind.i64.wrap (i+1))],[Blk.var [AV.str a0,AV.str a1,AV.lst 5 (List.map tyC.elem a2) Tl.open_,AV.lst 2 (List.map tyF.elem a3) Tl.open_,AV.lst 5 (List.map tyM.elem a4) Tl.open_]]))))) (T.leaf
 ((X.ret,[AV.ptr 0 0,AV.bool false,AV.int IntKind.i64 n,AV.int IntKind.i64 i],[Blk.var [AV.str a0,AV.str a1,AV.lst 5 (List.map tyC.elem a2) Tl.open_,AV.lst 2 (List.map tyF.elem a3) Tl.open_,AV.lst 5 (List.map tyM.elem a4) Tl.open_]])))):=by kernel_rfl
theorem p8sn(a0 a1:ByteArray)(a2:List tyC.I)(a3:List tyF.I)(a4:List tyM.I)(n:Int):runV (XN 8 [9,15,20,25,36,45]) (kAt [1,1,1,0,1] (st8 0 0) [.var [.str a0, .str a1,encL tyC a2,encL tyF a3,encL tyM a4]] .normal [(1, .ptr 0 0),(3, .int .i64 n)] [.var [.str a0, .str a1,encL tyC a2,encL tyF a3,encL tyM a4]]) Tryz.f8 (bodyOf Tryz.f8) [.agg [.str a0, .str a1,encL tyC a2,encL tyF a3,encL tyM a4]]=
 ((fun(s0:T AV)=>(T.br (decide ((300:Int)<(↑(List.map tyC.elem a2).length:Int))) (T.br true (T.br true (T.leaf (AV.bool false)) s0) (T.br (decide ((40:Int)<(↑(List.map tyM.elem a4).length:Int))) (T.leaf (AV.bool false)) s0)) (T.br (decide ((40:Int)<(↑(List.map tyF.elem a3).length:Int))) (T.br true (T.leaf (AV.bool false)) s0) (T.br (decide ((40:Int)<(↑(List.map tyM.elem
 a4).length:Int))) (T.leaf (AV.bool false)) s0)))) (T.br (askS [AV.ptr 0 (0:Nat),AV.int IntKind.i64 (0:Int),AV.int IntKind.i64 (0:Int)] [AV.ptr 0 (0:Nat),AV.int IntKind.i64 (0:Int),AV.int IntKind.i64 (↑(0:Nat):Int)] [Blk.var [AV.str a0,AV.str a1,AV.lst 5 (List.map tyC.elem a2) Tl.open_,AV.lst 2 (List.map tyF.elem a3) Tl.open_,AV.lst 5 (List.map tyM.elem a4) Tl.open_]]
 [Blk.var [AV.str a0,AV.str a1,AV.lst 5 (List.map tyC.elem a2) Tl.open_,AV.lst 2 (List.map tyF.elem a3) Tl.open_,AV.lst 5 (List.map tyM.elem a4) Tl.open_]]) (T.leaf (AV.bool (decide (n≤4000)))) T.fail)):=by kernel_rfl
theorem p8sr(a0 a1:ByteArray)(a2:List tyC.I)(a3:List tyF.I)(a4:List tyM.I):runV (XN 8 [9,15,20,25,36,45]) (kAt [1,1,1,0,1] (st8 0 0) [.var [.str a0, .str a1,encL tyC a2,encL tyF a3,encL tyM a4]] .ret [(2, .bool false)] [.var [.str a0, .str a1,encL tyC a2,encL tyF a3,encL tyM a4]]) Tryz.f8 (bodyOf Tryz.f8) [.agg [.str a0, .str a1,encL tyC a2,encL tyF a3,encL tyM a4]]=
 ((fun(s0:T AV)=>(T.br (decide ((300:Int)<(↑(List.map tyC.elem a2).length:Int))) (T.br true (T.br true (T.leaf (AV.bool false)) s0) (T.br (decide ((40:Int)<(↑(List.map tyM.elem a4).length:Int))) (T.leaf (AV.bool false)) s0)) (T.br (decide ((40:Int)<(↑(List.map tyF.elem a3).length:Int))) (T.br true (T.leaf (AV.bool false)) s0) (T.br (decide ((40:Int)<(↑(List.map tyM.elem
 a4).length:Int))) (T.leaf (AV.bool false)) s0)))) (T.br (askS [AV.ptr 0 (0:Nat),AV.int IntKind.i64 (0:Int),AV.int IntKind.i64 (0:Int)] [AV.ptr 0 (0:Nat),AV.int IntKind.i64 (0:Int),AV.int IntKind.i64 (↑(0:Nat):Int)] [Blk.var [AV.str a0,AV.str a1,AV.lst 5 (List.map tyC.elem a2) Tl.open_,AV.lst 2 (List.map tyF.elem a3) Tl.open_,AV.lst 5 (List.map tyM.elem a4) Tl.open_]]
 [Blk.var [AV.str a0,AV.str a1,AV.lst 5 (List.map tyC.elem a2) Tl.open_,AV.lst 2 (List.map tyF.elem a3) Tl.open_,AV.lst 5 (List.map tyM.elem a4) Tl.open_]]) (T.leaf (AV.bool false)) T.fail)):=by kernel_rfl
def hm8(a0 a1:ByteArray)(a2:List tyC.I)(a3:List tyF.I)(a4:List tyM.I):H:= [.var [.str a0, .str a1,encL tyC a2,encL tyF a3,encL tyM a4]]
theorem go8(a0 a1:ByteArray)(a2:List tyC.I)(a3:List tyF.I)(a4:List tyM.I)(hl:a4.length<1000000000000000)(j:Nat)(n:Int)(hj:j<a4.length):
  (∃n',Tri E0 57 [] (sub (bodyOf Tryz.f8) [1,1,1,0,1,0,0]) (frm (st8 j n)) (hm8 a0 a1 a2 a3 a4) .normal (frm (st8 (j+1) n')) (hm8 a0 a1 a2 a3 a4))∨Tri E0 57 [] (sub (bodyOf Tryz.f8) [1,1,1,0,1,0,0]) (frm (st8 j n)) (hm8 a0 a1 a2 a3 a4) .ret (frm [(2, .bool false)]) (hm8 a0 a1 a2 a3 a4):=by
 have ht:=p8s a0 a1 a2 a3 a4 n j
 have f0:fitsC Tryz.prog 51 (tyM.elem tyM.zero)=true:=by kernel_rfl
 rw[idx_ok hj f0,lt_ok hj,Int.toNat_natCast,getD_elem hj,wrap_next (by omega)]at ht;generalize hu:decide ((600:Int)<(((tyM.elem (a4.getD j tyM.zero)).cells.getD 3 undef).toL.length:Int))=u at ht;generalize hv:decide ((20:Int)<(((tyM.elem (a4.getD j tyM.zero)).cells.getD 4 undef).toL.length:Int))=v at ht
 cases u with
 |true=>exact .inr (Tri.seen (X:=XN 8 [9,15,20,25,36,45]) g0 (noCalls fun _ _ _=>rfl) KOK.none rfl (congrArg T.run ht) (by
   intro q hq;simp only[List.mem_cons,List.not_mem_nil,or_false]at hq
   rcases hq with rfl;rfl))
 |false=>cases v with
  |true=>exact .inr (Tri.seen (X:=XN 8 [9,15,20,25,36,45]) g0 (noCalls fun _ _ _=>rfl) KOK.none rfl (congrArg T.run ht) (by
    intro q hq;simp only[List.mem_cons,List.not_mem_nil,or_false]at hq
    rcases hq with rfl;rfl))
  |false=>exact .inl ⟨_,Tri.seen (X:=XN 8 [9,15,20,25,36,45]) g0 (noCalls fun _ _ _=>rfl) KOK.none rfl (congrArg T.run ht) (by
    intro q hq;simp only[st8,List.mem_cons,List.not_mem_nil,or_false]at hq
    rcases hq with rfl|rfl|rfl<;>rfl)⟩
theorem out8(a0 a1:ByteArray)(a2:List tyC.I)(a3:List tyF.I)(a4:List tyM.I)(n:Int):Tri E0 57 [] (sub (bodyOf Tryz.f8) [1,1,1,0,1,0,0]) (frm (st8 a4.length n)) (hm8 a0 a1 a2 a3 a4) (.exit 0) (frm [(1, .ptr 0 0),(3, .int .i64 n)]) (hm8 a0 a1 a2 a3 a4):=by
 have ht:=p8s a0 a1 a2 a3 a4 n a4.length
 rw[lt_no]at ht
 exact Tri.seen (X:=XN 8 [9,15,20,25,36,45]) g0 (noCalls fun _ _ _=>rfl) KOK.none rfl (congrArg T.run ht) (by
  intro q hq;simp only[List.mem_cons,List.not_mem_nil,or_false]at hq
  rcases hq with rfl|rfl<;>rfl)
theorem con8r(a0 a1:ByteArray)(a2:List tyC.I)(a3:List tyF.I)(a4:List tyM.I)(hl:a4.length<1000000000000000): ∃b,∀h,Con E0 8 [tyK.elem (a0,a1,a2,a3,a4)] h (.bool b) h:=by
 have hn:noRefs [tyK.elem (a0,a1,a2,a3,a4)]=true:=noRefs1 tyK _
 have fin: ∀{K:Known} {b:Bool},KOK E0 57 [] (bodyOf Tryz.f8) K→(runV (XN 8 [9,15,20,25,36,45]) K Tryz.f8 (bodyOf Tryz.f8) [tyK.elem (a0,a1,a2,a3,a4)]).run= .ok (.bool b)→ ∃b,∀h,Con E0 8 [tyK.elem (a0,a1,a2,a3,a4)] h (.bool b) h:=fun hk hr=>
  ⟨_,fun h=>Con.pureV (X:=XN 8 [9,15,20,25,36,45]) g0 noG0 (noCalls fun _ _ _=>rfl) (fn:=Tryz.f8) Tryz.func8 (c:=bodyOf Tryz.f8) rfl rfl (args:= [tyK.elem (a0,a1,a2,a3,a4)]) hk hn hr (Le.refl _) rfl h⟩
 have hS:(askS [AV.ptr (0:Nat) (0:Nat),AV.int IntKind.i64 (0:Int),AV.int IntKind.i64 (0:Int)]
 [AV.ptr (0:Nat) (0:Nat),AV.int IntKind.i64 (0:Int),AV.int IntKind.i64 (↑(0:Nat):Int)]
 [Blk.var
   [AV.str a0,AV.str a1,AV.lst (5:Nat) (List.map tyC.elem a2) Tl.open_,
    AV.lst (2:Nat) (List.map tyF.elem a3) Tl.open_,AV.lst (5:Nat) (List.map tyM.elem a4) Tl.open_]]
 [Blk.var
   [AV.str a0,AV.str a1,AV.lst (5:Nat) (List.map tyC.elem a2) Tl.open_,
    AV.lst (2:Nat) (List.map tyF.elem a3) Tl.open_,AV.lst (5:Nat) (List.map tyM.elem a4) Tl.open_]])=true:=askS_self _ _
 rcases rounds_or (E:=E0) (N:=57) (h0:= []) (c:=sub (bodyOf Tryz.f8) [1,1,1,0,1,0,0]) (n:=a4.length) (fun _ _=>True) st8 (hm8 a0 a1 a2 a3 a4) [(2, .bool false)] 0 (fun n=> [(1, .ptr 0 0),(3, .int .i64 n)]) (fun j s hj _=>(go8 a0 a1 a2 a3 a4 hl j s hj).imp (fun⟨s',h⟩=>⟨s',h,trivial⟩) id) (fun s _=>out8 a0 a1 a2 a3 a4 s) a4.length 0 0 (by omega) trivial with⟨n,hT,_⟩|hT
 ·have hk:KOK E0 57 [] (bodyOf Tryz.f8) (kAt [1,1,1,0,1] (st8 0 0) (hm8 a0 a1 a2 a3 a4) .normal [(1, .ptr 0 0),(3, .int .i64 n)] (hm8 a0 a1 a2 a3 a4)):=kAt_ok (Tri.block (id:=0) (Tri.loop hT))
  have ht:=congrArg T.run (p8sn a0 a1 a2 a3 a4 n)
  rw[hS]at ht;generalize decide ((300:Int)<((List.map tyC.elem a2).length:Nat))=u at ht;generalize decide ((40:Int)<((List.map tyM.elem a4).length:Nat))=v at ht;generalize decide ((40:Int)<((List.map tyF.elem a3).length:Nat))=w at ht
  cases u<;>cases v<;>cases w<;>exact fin hk ht
 ·have hk:KOK E0 57 [] (bodyOf Tryz.f8) (kAt [1,1,1,0,1] (st8 0 0) (hm8 a0 a1 a2 a3 a4) .ret [(2, .bool false)] (hm8 a0 a1 a2 a3 a4)):=kAt_ok (Tri.block (id:=0) (Tri.loop hT))
  have ht:=congrArg T.run (p8sr a0 a1 a2 a3 a4)
  rw[hS]at ht;generalize decide ((300:Int)<((List.map tyC.elem a2).length:Nat))=u at ht;generalize decide ((40:Int)<((List.map tyM.elem a4).length:Nat))=v at ht;generalize decide ((40:Int)<((List.map tyF.elem a3).length:Nat))=w at ht
  cases u<;>cases v<;>cases w<;>exact fin hk ht
theorem con8(x:tyK.I)(hx:tyK.okay x): ∃b,∀h,Con E0 8 [tyK.elem x] h (.bool b) h:=by
 obtain⟨a0,a1,a2,a3,a4⟩:=x;exact con8r a0 a1 a2 a3 a4 (Nat.lt_of_le_of_lt hx.2.2.2.2.1 (by decide))
noncomputable def rightX:tyK.I→Int:=fun(a0,a1,a2,a3,a4)=>rightE a0 a1 a2 a3 a4
noncomputable def rightQ:List AV→Int:=pick 0 (fun x:tyK.I=> [tyK.elem x]) rightX
noncomputable def placeQ:List AV→Int:=pick 0 encS fun p=>placeOf (firstI (fun j=>nmM ((msK p.1).getD j tyM.zero)=p.2) (msK p.1).length)
def okMt(args:List AV):Prop:= ∃(x:tyK.I) (s:ByteArray),args= [tyK.elem x, .str s]∧(msK x).length<1000000000000000
noncomputable def clRi(f:FuncId):Cl:=⟨f,okE1 tyK,fun args=> .int .i64 (rightQ args)⟩
noncomputable def clF(f:FuncId):Cl:=⟨f,okF15,fun args=> .int .i64 (fieldQ args)⟩
noncomputable def clMt(f:FuncId):Cl:=⟨f,okMt,fun args=> .int .i64 (placeQ args)⟩
noncomputable def g8(args:List AV):Bool:=someB E0 8 args
noncomputable def cl8:Cl:=⟨8,okE1 tyK,fun args=> .bool (g8 args)⟩
noncomputable def cs4:List Cl:= [clK 9,clRi 12,clRi 13,clF 14,clF 15,clMt 16,clMt 17]
noncomputable def E4:Env:={E0 with C:=lightC cs4,LC:=fun f=> [9,12,13,14,15,16,17].contains f}
noncomputable def X4:SX:={E:=E4,f:=4,con:=fun _=>false,split:=fun d=> [7,14,23,32].contains d,call:=callsBy (cl8::cs4),lit:=fun f=> [9,12,13,14,15,16,17].contains f}
theorem p4(a0 a1:ByteArray)(a2:List tyC.I)(a3:List tyF.I)(a4:List tyM.I)(s:ByteArray):runV X4 (fun _=>none) Tryz.f4 (bodyOf Tryz.f4) [.agg [.str a0, .str a1,encL tyC a2,encL tyF a3,encL tyM a4], .str s]=
 ((fun(s0:T AV)=>((fun(s1:T AV)=>((fun(s2:T AV)=>((fun(s3:T AV)=>((fun(s4:T AV)=>((fun(s5:T AV)=>(T.br (askQ (okE1 tyK) [AV.agg [AV.str a0,AV.str a1,AV.lst 5 (List.map tyC.elem a2) Tl.open_,AV.lst 2 (List.map tyF.elem a3) Tl.open_,AV.lst 5 (List.map tyM.elem a4) Tl.open_]]) (T.br (!g8 [AV.agg [AV.str a0,AV.str a1,AV.lst 5 (List.map tyC.elem a2) Tl.open_,AV.lst 2
 (List.map tyF.elem a3) Tl.open_,AV.lst 5 (List.map tyM.elem a4) Tl.open_]]) s0 (T.br (askQ (okE1 tyK) [AV.agg [AV.str a0,AV.str a1,AV.lst 5 (List.map tyC.elem a2) Tl.open_,AV.lst 2 (List.map tyF.elem a3) Tl.open_,AV.lst 5 (List.map tyM.elem a4) Tl.open_]]) (T.br (askL E4 (12:Nat) [AV.agg [AV.str a0,AV.str a1,AV.lst 5 (List.map tyC.elem a2) Tl.open_,AV.lst 2 (List.map tyF.elem a3)
 Tl.open_,AV.lst 5 (List.map tyM.elem a4) Tl.open_]] (AV.int IntKind.i64 (rightQ [AV.agg [AV.str a0,AV.str a1,AV.lst 5 (List.map tyC.elem a2) Tl.open_,AV.lst 2 (List.map tyF.elem a3) Tl.open_,AV.lst 5 (List.map tyM.elem a4) Tl.open_]]))) (T.br (askQ (okE1 tyK) [AV.agg [AV.str a0,AV.str a1,AV.lst 5 (List.map tyC.elem a2) Tl.open_,AV.lst 2 (List.map tyF.elem a3) Tl.open_,AV.lst 5 (List.map
 tyM.elem a4) Tl.open_]]) (T.br (askL E4 (13:Nat) [AV.agg [AV.str a0,AV.str a1,AV.lst 5 (List.map tyC.elem a2) Tl.open_,AV.lst 2 (List.map tyF.elem a3) Tl.open_,AV.lst 5 (List.map tyM.elem a4) Tl.open_]] (AV.int IntKind.i64 (rightQ [AV.agg [AV.str a0,AV.str a1,AV.lst 5 (List.map tyC.elem a2) Tl.open_,AV.lst 2 (List.map tyF.elem a3) Tl.open_,AV.lst 5 (List.map tyM.elem a4) Tl.open_]])))
 (T.br (decide (rightQ [AV.agg [AV.str a0,AV.str a1,AV.lst 5 (List.map tyC.elem a2) Tl.open_,AV.lst 2 (List.map tyF.elem a3) Tl.open_,AV.lst 5 (List.map tyM.elem a4) Tl.open_]]=rightQ [AV.agg [AV.str a0,AV.str a1,AV.lst 5 (List.map tyC.elem a2) Tl.open_,AV.lst 2 (List.map tyF.elem a3) Tl.open_,AV.lst 5 (List.map tyM.elem a4) Tl.open_]])) (T.br (askQ okF15 [AV.agg [AV.str a0,AV.str a1,
 AV.lst 5 (List.map tyC.elem a2) Tl.open_,AV.lst 2 (List.map tyF.elem a3) Tl.open_,AV.lst 5 (List.map tyM.elem a4) Tl.open_],AV.str s]) (T.br (askL E4 (14:Nat) [AV.agg [AV.str a0,AV.str a1,AV.lst 5 (List.map tyC.elem a2) Tl.open_,AV.lst 2 (List.map tyF.elem a3) Tl.open_,AV.lst 5 (List.map tyM.elem a4) Tl.open_],AV.str s] (AV.int IntKind.i64 (fieldQ [AV.agg [AV.str a0,AV.str a1,AV.lst 5
 (List.map tyC.elem a2) Tl.open_,AV.lst 2 (List.map tyF.elem a3) Tl.open_,AV.lst 5 (List.map tyM.elem a4) Tl.open_],AV.str s]))) (T.br (askQ okF15 [AV.agg [AV.str a0,AV.str a1,AV.lst 5 (List.map tyC.elem a2) Tl.open_,AV.lst 2 (List.map tyF.elem a3) Tl.open_,AV.lst 5 (List.map tyM.elem a4) Tl.open_],AV.str s]) (T.br (askL E4 (15:Nat) [AV.agg [AV.str a0,AV.str a1,AV.lst 5 (List.map
 tyC.elem a2) Tl.open_,AV.lst 2 (List.map tyF.elem a3) Tl.open_,AV.lst 5 (List.map tyM.elem a4) Tl.open_],AV.str s] (AV.int IntKind.i64 (fieldQ [AV.agg [AV.str a0,AV.str a1,AV.lst 5 (List.map tyC.elem a2) Tl.open_,AV.lst 2 (List.map tyF.elem a3) Tl.open_,AV.lst 5 (List.map tyM.elem a4) Tl.open_],AV.str s]))) (T.br (decide (fieldQ [AV.agg [AV.str a0,AV.str a1,AV.lst 5 (List.map tyC.elem a2)
 Tl.open_,AV.lst 2 (List.map tyF.elem a3) Tl.open_,AV.lst 5 (List.map tyM.elem a4) Tl.open_],AV.str s]=fieldQ [AV.agg [AV.str a0,AV.str a1,AV.lst 5 (List.map tyC.elem a2) Tl.open_,AV.lst 2 (List.map tyF.elem a3) Tl.open_,AV.lst 5 (List.map tyM.elem a4) Tl.open_],AV.str s])) s5 (T.br false s0 (T.leaf (AV.bool false)))) T.fail) T.fail) T.fail) T.fail) (T.br false s5 (T.br false s0 (T.leaf
 (AV.bool false))))) T.fail) T.fail) T.fail) T.fail)) T.fail)) (T.br (askQ okMt [AV.agg [AV.str a0,AV.str a1,AV.lst 5 (List.map tyC.elem a2) Tl.open_,AV.lst 2 (List.map tyF.elem a3) Tl.open_,AV.lst 5 (List.map tyM.elem a4) Tl.open_],AV.str s]) s4 T.fail))) (T.br (askL E4 (16:Nat) [AV.agg [AV.str a0,AV.str a1,AV.lst 5 (List.map tyC.elem a2) Tl.open_,AV.lst 2 (List.map tyF.elem a3) Tl.open_,
 AV.lst 5 (List.map tyM.elem a4) Tl.open_],AV.str s] (AV.int IntKind.i64 (placeQ [AV.agg [AV.str a0,AV.str a1,AV.lst 5 (List.map tyC.elem a2) Tl.open_,AV.lst 2 (List.map tyF.elem a3) Tl.open_,AV.lst 5 (List.map tyM.elem a4) Tl.open_],AV.str s]))) s3 T.fail))) (T.br (askQ okMt [AV.agg [AV.str a0,AV.str a1,AV.lst 5 (List.map tyC.elem a2) Tl.open_,AV.lst 2 (List.map tyF.elem a3) Tl.open_,
 AV.lst 5 (List.map tyM.elem a4) Tl.open_],AV.str s]) s2 T.fail))) (T.br (askL E4 (17:Nat) [AV.agg [AV.str a0,AV.str a1,AV.lst 5 (List.map tyC.elem a2) Tl.open_,AV.lst 2 (List.map tyF.elem a3) Tl.open_,AV.lst 5 (List.map tyM.elem a4) Tl.open_],AV.str s] (AV.int IntKind.i64 (placeQ [AV.agg [AV.str a0,AV.str a1,AV.lst 5 (List.map tyC.elem a2) Tl.open_,AV.lst 2 (List.map tyF.elem a3)
 Tl.open_,AV.lst 5 (List.map tyM.elem a4) Tl.open_],AV.str s]))) s1 T.fail))) (T.br (decide (placeQ [AV.agg [AV.str a0,AV.str a1,AV.lst 5 (List.map tyC.elem a2) Tl.open_,AV.lst 2 (List.map tyF.elem a3) Tl.open_,AV.lst 5 (List.map tyM.elem a4) Tl.open_],AV.str s]=placeQ [AV.agg [AV.str a0,AV.str a1,AV.lst 5 (List.map tyC.elem a2) Tl.open_,AV.lst 2 (List.map tyF.elem a3) Tl.open_,AV.lst 5
 (List.map tyM.elem a4) Tl.open_],AV.str s])) s0 (T.leaf (AV.bool false))))) (T.br (askQ (clK (9:FuncId)).2 []) (T.br (askL E4 (9:Nat) [] (AV.bool true)) (T.leaf (AV.bool true)) T.fail) T.fail)):=by kernel_rfl
theorem cl8_ok: ∀args,cl8.ok args→ ∀h,Con E0 cl8.f args h (cl8.res args) h:=fun args ha h=>someB_con (by obtain⟨x,rfl,hx⟩:=ha;exact con8 x hx) h
theorem clR12: ∀args,(clRi 12).ok args→ ∀h,Con E0 (clRi 12).f args h ((clRi 12).res args) h:=by
 rintro args ⟨x,rfl,hx⟩ h;have e:rightQ [tyK.elem x]=rightX x:=pick_eq (enc:=fun x:tyK.I=> [tyK.elem x]) (fun x y h=>Ty.elem_inj (List.cons.inj h).1) x;show Con E0 12 _ h (.int .i64 (rightQ [tyK.elem x])) h;rw[e];obtain⟨a0,a1,a2,a3,a4⟩:=x;exact con12 a0 a1 a2 a3 a4 hx h
theorem clR13: ∀args,(clRi 13).ok args→ ∀h,Con E0 (clRi 13).f args h ((clRi 13).res args) h:=by
 rintro args ⟨x,rfl,hx⟩ h;have e:rightQ [tyK.elem x]=rightX x:=pick_eq (enc:=fun x:tyK.I=> [tyK.elem x]) (fun x y h=>Ty.elem_inj (List.cons.inj h).1) x;show Con E0 13 _ h (.int .i64 (rightQ [tyK.elem x])) h;rw[e];obtain⟨a0,a1,a2,a3,a4⟩:=x;exact con13r a0 a1 a2 a3 a4 hx h
theorem clF14: ∀args,(clF 14).ok args→ ∀h,Con E0 (clF 14).f args h ((clF 14).res args) h:=by
 rintro args ⟨x,s,rfl,hl⟩ h;have e:fieldQ [tyK.elem x, .str s]=placeOf (firstI (fun j=>nmF ((fsK x).getD j tyF.zero)=s) (fsK x).length):=pick_eq encS_inj (x,s);show Con E0 14 _ h (.int .i64 (fieldQ [tyK.elem x, .str s])) h;rw[e];obtain⟨a0,a1,a2,a3,a4⟩:=x;exact con14r a0 a1 a2 a3 a4 s hl h
theorem placeQ_eq(x:tyK.I)(s:ByteArray):placeQ [tyK.elem x, .str s]=placeOf (firstI (fun j=>nmM ((msK x).getD j tyM.zero)=s) (msK x).length):=pick_eq encS_inj (x,s)
theorem clM16: ∀args,(clMt 16).ok args→ ∀h,Con E0 (clMt 16).f args h ((clMt 16).res args) h:=by
 rintro args ⟨x,s,rfl,hl⟩ h;show Con E0 16 _ h (.int .i64 (placeQ [tyK.elem x, .str s])) h;rw[placeQ_eq];obtain⟨a0,a1,a2,a3,a4⟩:=x;exact con16r a0 a1 a2 a3 a4 s hl h
theorem clM17: ∀args,(clMt 17).ok args→ ∀h,Con E0 (clMt 17).f args h ((clMt 17).res args) h:=by
 rintro args ⟨x,s,rfl,hl⟩ h;show Con E0 17 _ h (.int .i64 (placeQ [tyK.elem x, .str s])) h;rw[placeQ_eq];obtain⟨a0,a1,a2,a3,a4⟩:=x;exact con17r a0 a1 a2 a3 a4 s hl h
theorem cs4_ok(h9: ∀h,Con E0 9 [] h (.bool true) h): ∀c,c∈cs4→ ∀args,c.ok args→ ∀h,Con E0 c.f args h (c.res args) h:=fun c hc=>by
 rcases List.mem_cons.1 hc with rfl|hc
 ·exact clK_con h9
 rcases List.mem_cons.1 hc with rfl|hc
 ·exact clR12
 rcases List.mem_cons.1 hc with rfl|hc
 ·exact clR13
 rcases List.mem_cons.1 hc with rfl|hc
 ·exact clF14
 rcases List.mem_cons.1 hc with rfl|hc
 ·exact cl15_ok
 rcases List.mem_cons.1 hc with rfl|hc
 ·exact clM16
 ·obtain rfl:=List.mem_singleton.1 hc
  exact clM17
theorem cs4_noF: ∀c,c∈cs4→ ∀args,noF (c.res args)=true:=fun c hc args=>by
 rcases List.mem_cons.1 hc with rfl|hc
 ·rfl
 rcases List.mem_cons.1 hc with rfl|hc
 ·rfl
 rcases List.mem_cons.1 hc with rfl|hc
 ·rfl
 rcases List.mem_cons.1 hc with rfl|hc
 ·rfl
 rcases List.mem_cons.1 hc with rfl|hc
 ·rfl
 rcases List.mem_cons.1 hc with rfl|hc
 ·rfl
 ·obtain rfl:=List.mem_singleton.1 hc
  rfl
theorem g4(h9: ∀h,Con E0 9 [] h (.bool true) h):Ground E4:=⟨fun t h=>by simpa [E4,E0]using h,lightC_ok rfl (fun c hc args ha h=>Con.env (E:=E0) (E':=E4) rfl rfl (cs4_ok h9 c hc args ha h)) cs4_noF,bok_none (fun _=>rfl),by kernel_rfl⟩
theorem calls4(h9: ∀h,Con E0 9 [] h (.bool true) h):CallOK X4.E X4.calls:=callsBy_ok rfl fun c hc args ha h=>by
 refine Con.env (E:=E0) (E':=E4) rfl rfl ?_
 rcases List.mem_cons.1 hc with rfl|hc
 ·exact cl8_ok args ha h
 ·exact cs4_ok h9 c hc args ha h
theorem con4(x:tyK.I)(s:ByteArray)(hx:tyK.okay x)(h9: ∀h,Con E0 9 [] h (.bool true) h): ∃h',Con E0 4 [tyK.elem x, .str s] [] (.bool true) h':=by
 obtain⟨a0,a1,a2,a3,a4⟩:=x;have l3:a3.length<1000000000000000:=Nat.lt_of_le_of_lt hx.2.2.2.1.1 (by decide);have l4:a4.length<1000000000000000:=Nat.lt_of_le_of_lt hx.2.2.2.2.1 (by decide);have oa:okE1 tyK [tyK.elem (a0,a1,a2,a3,a4)]:=⟨_,rfl,hx⟩;have of:okF15 [tyK.elem (a0,a1,a2,a3,a4), .str s]:=⟨_,s,rfl,l3⟩;have om:okMt [tyK.elem (a0,a1,a2,a3,a4), .str s]:=⟨_,s,rfl,l4⟩
 have hr:(runV X4 (fun _=>none) Tryz.f4 (bodyOf Tryz.f4) [tyK.elem (a0,a1,a2,a3,a4), .str s]).run= .ok (.bool true):=by
  refine(congrArg T.run (p4 a0 a1 a2 a3 a4 s)).trans ?_
  refine bA ?_ oa
  cases ga:g8 [tyK.elem (a0,a1,a2,a3,a4)]with
  |false=>exact bT (congrArg not ga) (bA (bL (cs:=cs4) (c:=clK 9) rfl rfl rfl rfl rfl rfl) rfl)
  |true=>
   refine bF (congrArg not ga) ?_
   refine bA (bL (cs:=cs4) (c:=clRi 12) rfl rfl oa rfl rfl ?_) oa;refine bA (bL (cs:=cs4) (c:=clRi 13) rfl rfl oa rfl rfl (bT (decide_eq_true rfl) ?_)) oa;refine bA (bL (cs:=cs4) (c:=clF 14) rfl rfl of rfl rfl ?_) of;refine bA (bL (cs:=cs4) (c:=clF 15) rfl rfl of rfl rfl (bT (decide_eq_true rfl) ?_)) of;refine bA (bL (cs:=cs4) (c:=clMt 16) rfl rfl om rfl rfl ?_) om;refine bA (bL (cs:=cs4) (c:=clMt 17) rfl rfl om rfl rfl (bT (decide_eq_true rfl) ?_)) om;exact bA (bL (cs:=cs4) (c:=clK 9) rfl rfl rfl rfl rfl rfl) rfl
 obtain⟨⟨v,h'⟩,h2,h3⟩:=T.bind_ok hr;cases h3;exact⟨h',Con.env (E:=E4) (E':=E0) rfl rfl (Con.of_run (X:=X4) (f:=4) (g4 h9) (calls4 h9) (fn:=Tryz.f4) Tryz.func4 (c:=bodyOf Tryz.f4) rfl rfl (args:= [tyK.elem (a0,a1,a2,a3,a4), .str s]) (h:= []) KOK.none h2)⟩
theorem formsG:Tryz.prog.globalNamed "hornbook/ins.forms" =some 0:=by kernel_rfl
theorem formsT:(Tryz.prog.globals[0]?).map (·.type)=some 124:=by kernel_rfl
theorem formsTree:tree Tryz.prog 9 124 (Rows.laid_hornbook_ins_forms:DataW Unit)=some formsL:=by kernel_rfl
noncomputable def EK:Env:={E0 with C:=C0,M:=10000,L:=fun f s=>f==22&&s==11}
theorem known:val (acall EK 500 9 [] [])= .ok (.bool true):=by kernel_rfl
theorem gK:Ground EK:=⟨fun t h=>by simpa [EK,E0]using h,cok0 rfl rfl,bok_none (fun _=>rfl),by kernel_rfl⟩
theorem known9(h:H):Con E0 9 [] h (.bool true) h:=by
 obtain⟨h',hh⟩:=val_ok known;exact Con.base noG0 (Con.env (E:=EK) (E':=E0) rfl rfl (Con.of_acall gK hh)) rfl rfl h
theorem ty26:Ty.of Tryz.prog 40 26=some tyK:=by kernel_rfl
theorem okT26:okT Tryz.prog 9 26=true:=by kernel_rfl
set_option maxRecDepth 100000 in
theorem open26{H:Type}{enc:TypeId×Value→H}{b:Nat}{d:DataW H}{ps:List MemPlace}{W:World}{v:Value}(hv:Value.okWide Tryz.prog W .any b 26 v)(h:DataW.Trod enc Tryz.prog W 0 (fun _=>true) true 26 v d ps)(hw: ∀n∈d.weights Tryz.prog 26,n≤reachBytes):
  ∃x:tyK.I,CR F0 rho0 W v (tyK.elem x)∧tyK.okay x:=by
 obtain⟨cs,rfl,_⟩:=okWide_struct Tryz.underlying26 hv;obtain⟨fuel,hf⟩:=h
 obtain⟨l,hc,hs,hl⟩:=open_ok (F:=F0) (ρ:=rho0) (w:=W) (fun B off hF=>by
  rcases hF with⟨b,k,y,h1,_⟩|h1
  ·cases h1
  ·exact h1) 9 26 okT26 fuel _ _ hf hw
 obtain⟨x,hx,hk⟩:=(shp_ty (P:=Tryz.prog) 40).1 26 _ ty26 9 l hs;subst hx;obtain⟨a0,a1,a2,a3,a4⟩:=x;exact⟨_, .agg_of hc,hk⟩
set_option maxRecDepth 100000 in
theorem klassRights{H:Type}{enc:TypeId×Value→H}{b:Nat}{d:DataW H}{ps:List MemPlace}(W:World)(hX:laidMetH Tryz.prog Rows.klassRightsRow.laid W)
  (v:Value) (hv:Value.okWide Tryz.prog W .any b 26 v) (h:DataW.Trod enc Tryz.prog W 0 (fun _=>true) true 26 v d ps) (hw: ∀n∈d.weights Tryz.prog 26,n≤reachBytes) (s:ByteArray) (_:s.size≤140737488351232):
  Calls Tryz.prog 4 #[v, .string s] W fun e w'=>e= .returned (.bool true)∧Below W.heap.size W w':=by
 obtain⟨x,hx,ox⟩:=open26 hv h hw;obtain⟨m,hc⟩:=con4 x s ox known9
 refine Con.bool (E:=E0) hc (vs:= #[v, .string s]) (.cons hx (.cons (.str _) .nil)) ?_
 intro i cs h;simp only[E0]at h;split at h
 ·rename_i hi
  subst hi;cases h;exact globH_of (P:=Tryz.prog) (laid:=Rows.klassRightsRow.laid) hX (by kernel_rfl) (List.mem_of_getElem? (i:=1) (a:=("hornbook/ins.forms",Rows.laid_hornbook_ins_forms)) rfl) formsG formsT formsTree
 ·cases h
end Go.Proofs.YtijfpeonjnacgaaGreatDoor.AM
