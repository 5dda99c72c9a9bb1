-- SQUEEZED
/- Many constants as bytes; whether a class can be. -/
import Derived.Test.YtaooangghieljaaGreatDoorBBytes
namespace Go.Proofs.YtaooangghieljaaGreatDoor.AM
open Go Go.Proofs Go.RowKit
set_option linter.unusedVariables false
set_option linter.unusedSimpArgs false
def st62(L:List tyC.I)(j:Nat):List (Nat×AV):= [(0,encL tyC L),(3, .ptr 0 0),(5, .int .i64 j)]
theorem p62(L:List tyC.I)(a0 a1:Int)(a2 a3 a4:ByteArray)(i:Int):obsK (XN 88 [9,17]) (fun _=>none) 19 (sub (bodyOf Tryz.f88) [1,0,1,0,0]) [1,0,1,0,0] (frm [(0,encL tyC L),(3, .ptr 0 0),(5, .int .i64 i)]) [.var [.int .i64 a0, .int .i64 a1, .str a2, .str a3, .str a4]] [0,3,4,5]=
 (T.br (decide (i<(↑(List.map tyC.elem L).length:Int))) (T.br (decide ((0:Int)≤i)&&decide (i<(↑(List.map tyC.elem L).length:Int))&&fitsC Tryz.prog (57:Nat) ((List.map tyC.elem L).getD i.toNat undef)) (T.br ((((List.map tyC.elem L).getD i.toNat undef).cells.getD 0 undef).toI==a0&&((((List.map tyC.elem L).getD i.toNat undef).cells.getD 1 undef).toI==a1&&((((List.map tyC.elem
 L).getD i.toNat undef).cells.getD 2 undef).toS==a2&&((((List.map tyC.elem L).getD i.toNat undef).cells.getD 3 undef).toS==a3&&((((List.map tyC.elem L).getD i.toNat undef).cells.getD 4 undef).toS==a4&&true))))) (T.leaf ((X.ret,[AV.lst 5 (List.map tyC.elem L) Tl.open_,AV.ptr 0 0,AV.int IntKind.i64 i,AV.int IntKind.i64 i],[Blk.var [AV.int IntKind.i64 a0,AV.int IntKind.i64 a1,AV.str
 a2,AV.str a3,AV.str a4]]))) (T.leaf ((X.normal,[AV.lst 5 (List.map tyC.elem L) Tl.open_,AV.ptr 0 0,AV.fsl 0 [],AV.int IntKind.i64 (IntKind.i64.wrap (i+1))],[Blk.var [AV.int IntKind.i64 a0,AV.int IntKind.i64 a1,AV.str a2,AV.str a3,AV.str a4]])))) T.fail) (T.leaf ((X.exit 0,[AV.lst 5 (List.map tyC.elem L) Tl.open_,AV.ptr 0 0,AV.fsl 0 [],AV.int IntKind.i64 i],[Blk.var [AV.int
 IntKind.i64 a0,AV.int IntKind.i64 a1,AV.str a2,AV.str a3,AV.str a4]])))):=by kernel_rfl
theorem p62s(L:List tyC.I)(a0 a1:Int)(a2 a3 a4:ByteArray)(j:Nat):runV (XN 88 [9,17]) (kAt [1,0,1] (st62 L 0) [.var [.int .i64 a0, .int .i64 a1, .str a2, .str a3, .str a4]] .ret [(4, .int .i64 j)] [.var [.int .i64 a0, .int .i64 a1, .str a2, .str a3, .str a4]]) Tryz.f88 (bodyOf Tryz.f88) [encL tyC L, .agg [.int .i64 a0, .int .i64 a1, .str a2, .str a3, .str a4]]=
 (T.br (askS [AV.lst 5 (List.map tyC.elem L) Tl.open_,AV.ptr 0 (0:Nat),AV.int IntKind.i64 (0:Int)] [AV.lst 5 (List.map tyC.elem L) Tl.open_,AV.ptr 0 (0:Nat),AV.int IntKind.i64 (↑(0:Nat):Int)] [Blk.var [AV.int IntKind.i64 a0,AV.int IntKind.i64 a1,AV.str a2,AV.str a3,AV.str a4]] [Blk.var [AV.int IntKind.i64 a0,AV.int IntKind.i64 a1,AV.str a2,AV.str a3,AV.str a4]]) (T.leaf (AV.int
 IntKind.i64 (↑j:Int))) T.fail):=by kernel_rfl
theorem p62n(L:List tyC.I)(a0 a1:Int)(a2 a3 a4:ByteArray):runV (XN 88 [9,17]) (kAt [1,0,1] (st62 L 0) [.var [.int .i64 a0, .int .i64 a1, .str a2, .str a3, .str a4]] .normal (st62 L L.length) [.var [.int .i64 a0, .int .i64 a1, .str a2, .str a3, .str a4]]) Tryz.f88 (bodyOf Tryz.f88) [encL tyC L, .agg [.int .i64 a0, .int .i64 a1, .str a2, .str a3, .str a4]]=
 (T.br (askS [AV.lst 5 (List.map tyC.elem L) Tl.open_,AV.ptr 0 (0:Nat),AV.int IntKind.i64 (0:Int)] [AV.lst 5 (List.map tyC.elem L) Tl.open_,AV.ptr 0 (0:Nat),AV.int IntKind.i64 (↑(0:Nat):Int)] [Blk.var [AV.int IntKind.i64 a0,AV.int IntKind.i64 a1,AV.str a2,AV.str a3,AV.str a4]] [Blk.var [AV.int IntKind.i64 a0,AV.int IntKind.i64 a1,AV.str a2,AV.str a3,AV.str a4]]) (T.leaf (AV.int
 IntKind.i64 (-1))) T.fail):=by kernel_rfl
theorem raw_C(x0 x1:Int)(x2 x3 x4:ByteArray)(a0 a1:Int)(a2 a3 a4:ByteArray):(x0==a0&&(x1==a1&&(x2==a2&&(x3==a3&&(x4==a4&&true)))))=true↔((x0,x1,x2,x3,x4):Int×Int×ByteArray×ByteArray×ByteArray)=(a0,a1,a2,a3,a4):=by
 simp only[Bool.and_eq_true,Bool.and_true,beq_iff_eq,ba_beq_iff,Prod.mk.injEq]
theorem eqC_ask(x:tyC.I)(a0 a1:Int)(a2 a3 a4:ByteArray):(((tyC.elem x).cells.getD 0 undef).toI==a0&&(((tyC.elem x).cells.getD 1 undef).toI==a1&&(((tyC.elem x).cells.getD 2 undef).toS==a2&&(((tyC.elem x).cells.getD 3 undef).toS==a3&&(((tyC.elem x).cells.getD 4 undef).toS==a4&&true)))))=ask (x=(a0,a1,a2,a3,a4)):=by
 obtain⟨x0,x1,x2,x3,x4⟩:=x;apply ask_iff;exact raw_C x0 x1 x2 x3 x4 a0 a1 a2 a3 a4
theorem shape_C(x:tyC.I):AV.agg [AV.int .i64 ((tyC.elem x).cells.getD 0 undef).toI,AV.int .i64 ((tyC.elem x).cells.getD 1 undef).toI,AV.str ((tyC.elem x).cells.getD 2 undef).toS,AV.str ((tyC.elem x).cells.getD 3 undef).toS,AV.str ((tyC.elem x).cells.getD 4 undef).toS]=tyC.elem x:=by
 obtain⟨a0,a1,a2,a3,a4⟩:=x;rfl
noncomputable def findC(L:List tyC.I)(c:tyC.I):Int:=placeOf (firstI (fun j=>L.getD j tyC.zero=c) L.length)
theorem con62(L:List tyC.I)(a0 a1:Int)(a2 a3 a4:ByteArray)(hl:L.length<1000000000000000)(h:H):Con E0 88 [encL tyC L, .agg [.int .i64 a0, .int .i64 a1, .str a2, .str a3, .str a4]] h (.int .i64 (findC L (a0,a1,a2,a3,a4))) h:=by
 have f0:fitsC Tryz.prog 57 (tyC.elem tyC.zero)=true:=by kernel_rfl
 have hn:noRefs [encL tyC L, .agg [.int .i64 a0, .int .i64 a1, .str a2, .str a3, .str a4]]=true:=by
  have:=encL_noRef tyC L;simp only[noRefs,noRef,this,Bool.and_true]
 have fin: ∀{K:Known} {v:Int},KOK E0 19 [] (bodyOf Tryz.f88) K→(runV (XN 88 [9,17]) K Tryz.f88 (bodyOf Tryz.f88) [encL tyC L, .agg [.int .i64 a0, .int .i64 a1, .str a2, .str a3, .str a4]]).run= .ok (.int .i64 v)→Con E0 88 [encL tyC L, .agg [.int .i64 a0, .int .i64 a1, .str a2, .str a3, .str a4]] h (.int .i64 v) h:=fun hk hr=>
  Con.pureV (X:=XN 88 [9,17]) g0 noG0 (noCalls fun _ _ _=>rfl) (fn:=Tryz.f88) Tryz.func88 (c:=bodyOf Tryz.f88) rfl rfl (args:= [encL tyC L, .agg [.int .i64 a0, .int .i64 a1, .str a2, .str a3, .str a4]]) hk hn hr (Le.refl _) rfl h
 have hS:(askS
 [AV.lst (5:Nat) (List.map tyC.elem L) Tl.open_,AV.ptr (0:Nat) (0:Nat),AV.int IntKind.i64 (0:Int)]
 [AV.lst (5:Nat) (List.map tyC.elem L) Tl.open_,AV.ptr (0:Nat) (0:Nat),AV.int IntKind.i64 (↑(0:Nat):Int)]
 [Blk.var [AV.int IntKind.i64 a0,AV.int IntKind.i64 a1,AV.str a2,AV.str a3,AV.str a4]]
 [Blk.var [AV.int IntKind.i64 a0,AV.int IntKind.i64 a1,AV.str a2,AV.str a3,AV.str a4]])=true:=askS_self _ _
 have hT:=find_rounds (E:=E0) (N:=19) (h0:= []) (c:=sub (bodyOf Tryz.f88) [1,0,1,0,0]) (p:=fun j=>L.getD j tyC.zero=(a0,a1,a2,a3,a4)) (n:=L.length) (st:=st62 L) (hm:= [.var [.int .i64 a0, .int .i64 a1, .str a2, .str a3, .str a4]]) (rt:=fun j=> [(4, .int .i64 j)]) (id:=0)
  (fun j hj hp=>by
   have ht:=p62 L a0 a1 a2 a3 a4 j
   rw[idx_ok hj f0,lt_ok hj,Int.toNat_natCast,getD_elem hj,wrap_next (by omega),eqC_ask,ask_false hp]at ht
   exact Tri.seen g0 (noCalls fun _ _ _=>rfl) KOK.none rfl (congrArg T.run ht) (by
    intro q hq;simp only[st62,List.mem_cons,List.not_mem_nil,or_false]at hq
    rcases hq with rfl|rfl|rfl<;>rfl))
  (fun j hj hp=>by
   have ht:=p62 L a0 a1 a2 a3 a4 j
   rw[idx_ok hj f0,lt_ok hj,Int.toNat_natCast,getD_elem hj,eqC_ask,ask_true hp]at ht
   exact Tri.seen g0 (noCalls fun _ _ _=>rfl) KOK.none rfl (congrArg T.run ht) (by
    intro q hq;simp only[List.mem_cons,List.not_mem_nil,or_false]at hq
    rcases hq with rfl;rfl))
  (by
   have ht:=p62 L a0 a1 a2 a3 a4 L.length
   rw[lt_no]at ht
   exact Tri.seen g0 (noCalls fun _ _ _=>rfl) KOK.none rfl (congrArg T.run ht) (by
    intro q hq;simp only[st62,List.mem_cons,List.not_mem_nil,or_false]at hq
    rcases hq with rfl|rfl|rfl<;>rfl))
 have hF:findC L (a0,a1,a2,a3,a4)=placeOf (firstI (fun j=>L.getD j tyC.zero=(a0,a1,a2,a3,a4)) L.length):=rfl;rw[hF]
 cases hf:firstI (fun j=>L.getD j tyC.zero=(a0,a1,a2,a3,a4)) L.length with
 |some i=>
  rw[hf]at hT;have hk:KOK E0 19 [] (bodyOf Tryz.f88) (kAt [1,0,1] (st62 L 0) [.var [.int .i64 a0, .int .i64 a1, .str a2, .str a3, .str a4]] .ret [(4, .int .i64 i)] [.var [.int .i64 a0, .int .i64 a1, .str a2, .str a3, .str a4]]):=kAt_ok (Tri.block (id:=0) (Tri.loop hT));exact fin hk ((congrArg T.run (p62s L a0 a1 a2 a3 a4 i)).trans (bT hS rfl))
 |none=>
  rw[hf]at hT;have hk:KOK E0 19 [] (bodyOf Tryz.f88) (kAt [1,0,1] (st62 L 0) [.var [.int .i64 a0, .int .i64 a1, .str a2, .str a3, .str a4]] .normal (st62 L L.length) [.var [.int .i64 a0, .int .i64 a1, .str a2, .str a3, .str a4]]):=kAt_ok (Tri.block (id:=0) (Tri.loop hT));exact fin hk ((congrArg T.run (p62n L a0 a1 a2 a3 a4)).trans (bT hS rfl))
def encF(p:List tyC.I×tyC.I):List AV:= [encL tyC p.1,tyC.elem p.2]
theorem encF_inj(x y:List tyC.I×tyC.I)(h:encF x=encF y):x=y:=by
 obtain⟨a,b⟩:=x;obtain⟨c,d⟩:=y;simp only[encF,List.cons.injEq,and_true]at h;rw[encL_inj h.1,Ty.elem_inj h.2]
noncomputable def findQ:List AV→Int:=pick 0 encF fun p=>findC p.1 p.2
def okFi(args:List AV):Prop:= ∃(L:List tyC.I) (c:tyC.I),args= [encL tyC L,tyC.elem c]∧L.length<1000000000000000
noncomputable def clFi:Cl:=⟨88,okFi,fun args=> .int .i64 (findQ args)⟩
theorem findQ_eq(L:List tyC.I)(c:tyC.I):findQ [encL tyC L,tyC.elem c]=findC L c:=pick_eq encF_inj (L,c)
theorem clFi62: ∀args,clFi.ok args→ ∀h,Con E0 clFi.f args h (clFi.res args) h:=by
 rintro args ⟨L,c,rfl,hl⟩ h;show Con E0 88 _ h (.int .i64 (findQ [encL tyC L,tyC.elem c])) h;rw[findQ_eq];obtain⟨a0,a1,a2,a3,a4⟩:=c;exact con62 L a0 a1 a2 a3 a4 hl h
def st36(L:List tyC.I)(b:List AV)(j:Nat):List (Nat×AV):= [(0, .lst 1 b .open_),(1,encL tyC L),(6, .map 0),(17,encL tyC L),(18, .int .i64 (((L.map tyC.elem).length:Nat):Int)),(19, .int .i64 j)]
theorem p36(L:List tyC.I)(b:List AV)(es:List (AV×AV))(m i:Int):obsK (XC 29 [11,20,25,36] [clPu 38,clG 55,clY]) (fun _=>none) 38 (sub (bodyOf Tryz.f29) [1,1,1,1,0,1,0,0]) [1,1,1,1,0,1,0,0] (frm [(0, .lst 1 b .open_),(1,encL tyC L),(6, .map 0),(17,encL tyC L),(18, .int .i64 m),(19, .int .i64 i)]) [.map es] [0,1,4,5,6,17,18,19]=
 (T.br (decide (i<m)) (T.br (decide ((0:Int)≤i)&&decide (i<(↑(List.map tyC.elem L).length:Int))&&fitsC Tryz.prog (57:Nat) ((List.map tyC.elem L).getD i.toNat undef)) (T.br (askQ (okE1 tyC) [AV.agg [AV.int IntKind.i64 (((List.map tyC.elem L).getD i.toNat undef).cells.getD 0 undef).toI,AV.int IntKind.i64 (((List.map tyC.elem L).getD i.toNat undef).cells.getD 1 undef).toI,AV.str
 (((List.map tyC.elem L).getD i.toNat undef).cells.getD 2 undef).toS,AV.str (((List.map tyC.elem L).getD i.toNat undef).cells.getD 3 undef).toS,AV.str (((List.map tyC.elem L).getD i.toNat undef).cells.getD 4 undef).toS]]) (T.br (!goodA [AV.agg [AV.int IntKind.i64 (((List.map tyC.elem L).getD i.toNat undef).cells.getD 0 undef).toI,AV.int IntKind.i64 (((List.map tyC.elem L).getD i.toNat
 undef).cells.getD 1 undef).toI,AV.str (((List.map tyC.elem L).getD i.toNat undef).cells.getD 2 undef).toS,AV.str (((List.map tyC.elem L).getD i.toNat undef).cells.getD 3 undef).toS,AV.str (((List.map tyC.elem L).getD i.toNat undef).cells.getD 4 undef).toS]]) (T.leaf ((X.ret,[AV.lst 1 b Tl.open_,AV.lst 5 (List.map tyC.elem L) Tl.open_,AV.nils,AV.int IntKind.i64 11,AV.map 0,AV.lst 5
 (List.map tyC.elem L) Tl.open_,AV.int IntKind.i64 m,AV.int IntKind.i64 i],[Blk.map es,Blk.var [AV.int IntKind.i64 (((List.map tyC.elem L).getD i.toNat undef).cells.getD 0 undef).toI,AV.int IntKind.i64 (((List.map tyC.elem L).getD i.toNat undef).cells.getD 1 undef).toI,AV.str (((List.map tyC.elem L).getD i.toNat undef).cells.getD 2 undef).toS,AV.str (((List.map tyC.elem L).getD i.toNat
 undef).cells.getD 3 undef).toS,AV.str (((List.map tyC.elem L).getD i.toNat undef).cells.getD 4 undef).toS]]))) (T.br (putOk Tryz.prog E0.S (57:Nat) (AV.agg [AV.int IntKind.i64 (((List.map tyC.elem L).getD i.toNat undef).cells.getD 0 undef).toI,AV.int IntKind.i64 (((List.map tyC.elem L).getD i.toNat undef).cells.getD 1 undef).toI,AV.str (((List.map tyC.elem L).getD i.toNat undef).cells.getD 2
 undef).toS,AV.str (((List.map tyC.elem L).getD i.toNat undef).cells.getD 3 undef).toS,AV.str (((List.map tyC.elem L).getD i.toNat undef).cells.getD 4 undef).toS]) es) (T.br (askQ okLay [AV.lst 1 b Tl.open_,AV.agg [AV.int IntKind.i64 (((List.map tyC.elem L).getD i.toNat undef).cells.getD 0 undef).toI,AV.int IntKind.i64 (((List.map tyC.elem L).getD i.toNat undef).cells.getD 1 undef).toI,AV.str
 (((List.map tyC.elem L).getD i.toNat undef).cells.getD 2 undef).toS,AV.str (((List.map tyC.elem L).getD i.toNat undef).cells.getD 3 undef).toS,AV.str (((List.map tyC.elem L).getD i.toNat undef).cells.getD 4 undef).toS]]) (T.leaf ((X.normal,[AV.lst 1 (layA [AV.lst 1 b Tl.open_,AV.agg [AV.int IntKind.i64 (((List.map tyC.elem L).getD i.toNat undef).cells.getD 0 undef).toI,AV.int IntKind.i64
 (((List.map tyC.elem L).getD i.toNat undef).cells.getD 1 undef).toI,AV.str (((List.map tyC.elem L).getD i.toNat undef).cells.getD 2 undef).toS,AV.str (((List.map tyC.elem L).getD i.toNat undef).cells.getD 3 undef).toS,AV.str (((List.map tyC.elem L).getD i.toNat undef).cells.getD 4 undef).toS]]) Tl.open_,AV.lst 5 (List.map tyC.elem L) Tl.open_,AV.fsl 0 [],AV.fsl 0 [],AV.map 0,AV.lst 5
 (List.map tyC.elem L) Tl.open_,AV.int IntKind.i64 m,AV.int IntKind.i64 (IntKind.i64.wrap (i+1))],[Blk.map (putM Tryz.prog E0.S 57 (AV.agg [AV.int IntKind.i64 (((List.map tyC.elem L).getD i.toNat undef).cells.getD 0 undef).toI,AV.int IntKind.i64 (((List.map tyC.elem L).getD i.toNat undef).cells.getD 1 undef).toI,AV.str (((List.map tyC.elem L).getD i.toNat undef).cells.getD 2 undef).toS,
 AV.str (((List.map tyC.elem L).getD i.toNat undef).cells.getD 3 undef).toS,AV.str (((List.map tyC.elem L).getD i.toNat undef).cells.getD 4 undef).toS]) (AV.bool true) es),Blk.var [AV.int IntKind.i64 (((List.map tyC.elem L).getD i.toNat undef).cells.getD 0 undef).toI,AV.int IntKind.i64 (((List.map tyC.elem L).getD i.toNat undef).cells.getD 1 undef).toI,AV.str (((List.map tyC.elem L).getD i.toNat
 undef).cells.getD 2 undef).toS,AV.str (((List.map tyC.elem L).getD i.toNat undef).cells.getD 3 undef).toS,AV.str (((List.map tyC.elem L).getD i.toNat undef).cells.getD 4 undef).toS]]))) T.fail) T.fail)) T.fail) T.fail) (T.leaf ((X.exit 0,[AV.lst 1 b Tl.open_,AV.lst 5 (List.map tyC.elem L) Tl.open_,AV.fsl 0 [],AV.fsl 0 [],AV.map 0,AV.lst 5 (List.map tyC.elem L) Tl.open_,AV.int IntKind.i64
 m,AV.int IntKind.i64 i],[Blk.map es])))):=by kernel_rfl
theorem p36s(L:List tyC.I)(b:List AV)(es:List (AV×AV)):runV (XC 29 [11,20,25,36] [clPu 38,clG 55,clY]) (kAt [1,1,1,1,0,1] (st36 L (b++numB (((L.map tyC.elem).length:Nat):Int)) 0) [.map []] .ret [(4, .nils),(5, .int .i64 11)] [.map es]) Tryz.f29 (bodyOf Tryz.f29) [.lst 1 b .open_,encL tyC L]=
 (T.br (decide ((256:Int)<(↑(List.map tyC.elem L).length:Int))) (T.leaf (AV.tup [AV.nils,AV.int IntKind.i64 6])) (T.br (askQ okPu [AV.lst 1 b Tl.open_,AV.int IntKind.i64 (↑(List.map tyC.elem L).length:Int)]) (T.br (askS [AV.lst 1 (b++numB (↑(List.map tyC.elem L).length:Int)) Tl.open_,AV.lst 5 (List.map tyC.elem L) Tl.open_,AV.map 0,AV.lst 5 (List.map tyC.elem L) Tl.open_,AV.int
 IntKind.i64 (↑(List.map tyC.elem L).length:Int),AV.int IntKind.i64 (0:Int)] [AV.lst 1 (b++numB (↑(List.map tyC.elem L).length:Int)) Tl.open_,AV.lst 5 (List.map tyC.elem L) Tl.open_,AV.map 0,AV.lst 5 (List.map tyC.elem L) Tl.open_,AV.int IntKind.i64 (↑(List.map tyC.elem L).length:Int),AV.int IntKind.i64 (↑(0:Nat):Int)] [Blk.map []] [Blk.map []]) (T.leaf (AV.tup [AV.nils,AV.int
 IntKind.i64 11])) T.fail) T.fail)):=by kernel_rfl
theorem p36n(L:List tyC.I)(b:List AV)(c:List AV)(es:List (AV×AV)):runV (XC 29 [11,20,25,36] [clPu 38,clG 55,clY]) (kAt [1,1,1,1,0,1] (st36 L (b++numB (((L.map tyC.elem).length:Nat):Int)) 0) [.map []] .normal (st36 L c L.length) [.map es]) Tryz.f29 (bodyOf Tryz.f29) [.lst 1 b .open_,encL tyC L]=
 (T.br (decide ((256:Int)<(↑(List.map tyC.elem L).length:Int))) (T.leaf (AV.tup [AV.nils,AV.int IntKind.i64 6])) (T.br (askQ okPu [AV.lst 1 b Tl.open_,AV.int IntKind.i64 (↑(List.map tyC.elem L).length:Int)]) (T.br (askS [AV.lst 1 (b++numB (↑(List.map tyC.elem L).length:Int)) Tl.open_,AV.lst 5 (List.map tyC.elem L) Tl.open_,AV.map 0,AV.lst 5 (List.map tyC.elem L) Tl.open_,AV.int
 IntKind.i64 (↑(List.map tyC.elem L).length:Int),AV.int IntKind.i64 (0:Int)] [AV.lst 1 (b++numB (↑(List.map tyC.elem L).length:Int)) Tl.open_,AV.lst 5 (List.map tyC.elem L) Tl.open_,AV.map 0,AV.lst 5 (List.map tyC.elem L) Tl.open_,AV.int IntKind.i64 (↑(List.map tyC.elem L).length:Int),AV.int IntKind.i64 (↑(0:Nat):Int)] [Blk.map []] [Blk.map []]) (T.br (decide ((↑es.length:Int)
 <(↑(List.map tyC.elem L).length:Int))) (T.leaf (AV.tup [AV.nils,AV.int IntKind.i64 8])) (T.leaf (AV.tup [AV.lst 1 c Tl.open_,AV.int IntKind.i64 0]))) T.fail) T.fail)):=by kernel_rfl
theorem p36x(L:List tyC.I)(b:List AV):runV (XC 29 [11,20,25,36] [clPu 38,clG 55,clY]) (kNo [1,1,1,1,0,1]) Tryz.f29 (bodyOf Tryz.f29) [.lst 1 b .open_,encL tyC L]=
 (T.br (decide ((256:Int)<(↑(List.map tyC.elem L).length:Int))) (T.leaf (AV.tup [AV.nils,AV.int IntKind.i64 6])) (T.br (askQ okPu [AV.lst 1 b Tl.open_,AV.int IntKind.i64 (↑(List.map tyC.elem L).length:Int)]) T.fail T.fail)):=by kernel_rfl
instance:DecidableEq tyC.I:=inferInstanceAs (DecidableEq (Int×Int×ByteArray×ByteArray×ByteArray))
def dupC(L:List tyC.I)(n:Nat):Prop:= ∃i,i<n∧ ∃k,k<i∧L.getD k tyC.zero=L.getD i tyC.zero
noncomputable def poolE(L:List tyC.I):Int:=if 256<L.length then 6 else match firstI (fun j=>goodC (L.getD j tyC.zero)=false) L.length with
 |some _=>11
 |none=>(match ask (dupC L L.length)with|true=>8|false=>0)
def upB(b:List AV)(L:List tyC.I)(j:Nat):List AV:=b++numB (((L.map tyC.elem).length:Nat):Int)++(L.take j).flatMap conB
theorem upB_next(b:List AV)(L:List tyC.I)(j:Nat)(hj:j<L.length):upB b L (j+1)=upB b L j++conB (L.getD j tyC.zero):=by
 unfold upB;rw[List.take_add_one,List.flatMap_append,List.getD_eq_getElem?_getD,List.getElem?_eq_getElem hj];simp[List.append_assoc]
theorem upB_isB{b:List AV}(hb:IsB b)(L:List tyC.I)(j:Nat):IsB (upB b L j):=(hb.append (numB_isB _)).append fun y hy=>by
 obtain⟨c,_,h⟩:=List.mem_flatMap.1 hy;exact conB_isB c y h
theorem upB_len{b:List AV}{L:List tyC.I}: ∀(j:Nat),j≤L.length→(∀k,k<j→fitC (L.getD k tyC.zero))→(upB b L j).length≤b.length+10+j*1000
 |0,_,_=>by
  have:=numB_len (((L.map tyC.elem).length:Nat):Int);simp only[upB,List.take_zero,List.flatMap_nil,List.append_nil,List.length_append];omega
 |j+1,hj,h=>by
  have h1:=upB_len (b:=b) (L:=L) j (by omega) (fun k hk=>h k (by omega))
  have h2:=conB_len (h j (by omega))
  rw[upB_next b L j (by omega),List.length_append];omega
noncomputable def poolR(b:List AV)(L:List tyC.I):AV:= .tup [.lst 1 (if poolE L=0 then upB b L L.length else []) .open_, .int .i64 (poolE L)]
theorem poolR_no{b:List AV}{L:List tyC.I}{e:Int}(h:poolE L=e)(h0:e≠0):Le (.tup [.nils, .int .i64 e]) (poolR b L):=by
 unfold poolR;rw[h,if_neg h0];exact Le.tup (.cons (Le.nils nofun) (.cons (Le.refl _) .nil))
theorem poolR_ref{b:List AV}(hb:IsB b)(L:List tyC.I):noRef (poolR b L)=true:=by
 unfold poolR
 have h:IsB (if poolE L=0 then upB b L L.length else []):=by
  split
  ·exact upB_isB hb L _
  ·exact IsB.nil
 have:=refB h
 simp only[noRef,noRefs,Bool.and_true]at this ⊢
 rw[this]
theorem eqT5(x0 x1:Int)(x2 x3 x4:ByteArray)(a0 a1:Int)(a2 a3 a4:ByteArray):eqT Tryz.prog E0.S 99 57 (.agg [.int .i64 x0, .int .i64 x1, .str x2, .str x3, .str x4]) (.agg [.int .i64 a0, .int .i64 a1, .str a2, .str a3, .str a4])=some (x0==a0&&(x1==a1&&(x2==a2&&(x3==a3&&(x4==a4&&true))))):=by kernel_rfl
theorem eqT_C(a b:tyC.I):eqT Tryz.prog E0.S 99 57 (tyC.elem a) (tyC.elem b)=some (decide (a=b)):=by
 obtain⟨x0,x1,x2,x3,x4⟩:=a;obtain⟨a0,a1,a2,a3,a4⟩:=b;refine(eqT5 x0 x1 x2 x3 x4 a0 a1 a2 a3 a4).trans (congrArg some ?_);exact Bool.eq_iff_iff.2 ((raw_C x0 x1 x2 x3 x4 a0 a1 a2 a3 a4).trans (decide_eq_true_iff).symm)
theorem plain5(a0 a1:Int)(a2 a3 a4:ByteArray):plainEq (.agg [.int .i64 a0, .int .i64 a1, .str a2, .str a3, .str a4]) (.agg [.int .i64 a0, .int .i64 a1, .str a2, .str a3, .str a4])=true:=by
 have h: ∀s:ByteArray,(s==s)=true:=fun s=>(ba_beq_iff s s).2 rfl
 simp[plainEq,plains,plain1,h]
theorem plain_C(a:tyC.I):plainEq (tyC.elem a) (tyC.elem a)=true:=by
 obtain⟨a0,a1,a2,a3,a4⟩:=a;exact plain5 a0 a1 a2 a3 a4
theorem renB_setBy(κ:Nat→Nat)(l:List tyC.I):renB κ (.map (setBy tyC.elem l))= .map (setBy tyC.elem l):=by
 simp only[renB,setBy,List.map_map]
 congr 1
theorem calls36:CallOK (XC 29 [11,20,25,36] [clPu 38,clG 55,clY]).E (XC 29 [11,20,25,36] [clPu 38,clG 55,clY]).calls:=callsBy_ok rfl fun c hc=>by
 rcases List.mem_cons.1 hc with rfl|hc
 ·exact clPu66
 rcases List.mem_cons.1 hc with rfl|hc
 ·exact clG67
 ·obtain rfl:=List.mem_singleton.1 hc
  exact clY68
theorem seen36{l:List tyC.I}{τ:Fr}{h:H}{x:X}{vs:List AV}{extra:H}
  (hr:(obsK (XC 29 [11,20,25,36] [clPu 38,clG 55,clY]) (fun _=>none) 38 (sub (bodyOf Tryz.f29) [1,1,1,1,0,1,0,0]) [1,1,1,1,0,1,0,0] τ h [0,1,4,5,6,17,18,19]).run= .ok (x,vs,[.map (setBy tyC.elem l)]++extra)) {sl:List (Nat×AV)}
  (hs: ∀q,q∈sl→frm ([0,1,4,5,6,17,18,19].zip vs) q.1=q.2∧(noRef q.2=true∨q.2= .map 0)∧isFsl q.2=false):Tri E0 38 [] (sub (bodyOf Tryz.f29) [1,1,1,1,0,1,0,0]) τ h x (frm sl) [.map (setBy tyC.elem l)]:=by
 refine Tri.seenB (X:=XC 29 [11,20,25,36] [clPu 38,clG 55,clY]) g0 noG0 calls36 KOK.none rfl hr (Nat.zero_le _) (fun b hb=>?_) (fun b hb=>?_) (fun q hq=>?_)
 ·obtain rfl:=List.mem_singleton.1 hb;nofun
 ·obtain rfl:=List.mem_singleton.1 hb;exact renB_setBy _ l
 ·obtain⟨h1,h2,h3⟩:=hs q hq
  refine⟨h1,?_,h3⟩
  rcases h2 with h2|h2
  ·exact ren_noRef _ _ h2
  ·rw[h2];rfl
set_option maxRecDepth 100000 in
theorem con36(L:List tyC.I)(b:List AV)(hb:IsB b)(hbl:b.length≤100000)(hl:L.length<1000000000000000)(hok: ∀x,x∈L→tyC.okay x)(h:H):Con E0 29 [.lst 1 b .open_,encL tyC L] h (poolR b L) h:=by
 have hlen:(L.map tyC.elem).length=L.length:=by simp
 have hn:noRefs [.lst 1 b .open_,encL tyC L]=true:=refs2 hb (encL_noRef _ _)
 have f0:fitsC Tryz.prog 57 (tyC.elem tyC.zero)=true:=by kernel_rfl
 have fin: ∀{K:Known} {v:AV},KOK E0 38 [] (bodyOf Tryz.f29) K→(runV (XC 29 [11,20,25,36] [clPu 38,clG 55,clY]) K Tryz.f29 (bodyOf Tryz.f29) [.lst 1 b .open_,encL tyC L]).run= .ok v→Le v (poolR b L)→Con E0 29 [.lst 1 b .open_,encL tyC L] h (poolR b L) h:=fun hk hr hle=>
  Con.pureV (X:=XC 29 [11,20,25,36] [clPu 38,clG 55,clY]) g0 noG0 calls36 (fn:=Tryz.f29) Tryz.func29 (c:=bodyOf Tryz.f29) rfl rfl (args:= [.lst 1 b .open_,encL tyC L]) hk hn hr hle (poolR_ref hb L) h
 by_cases h8:256<L.length
 ·exact fin (kNo_ok (p:= [1,1,1,1,0,1])) ((congrArg T.run (p36x L b)).trans (bT (decide_eq_true (by rw[hlen];omega)) rfl)) (poolR_no (if_pos h8) (by decide))
 have hR:poolE L=match firstI (fun j=>goodC (L.getD j tyC.zero)=false) L.length with
    |some _=>11
    |none=>(match ask (dupC L L.length)with|true=>8|false=>0):=if_neg h8
 have hmem: ∀j,j<L.length→tyC.okay (L.getD j tyC.zero):=fun j hj=>hok _ (getD_mem hj)
 have hfit: ∀j,j<L.length→goodC (L.getD j tyC.zero)=true→fitC (L.getD j tyC.zero):=fun j hj hg=>(goodC_sp _ (hmem j hj)).2.2 hg
 have hqg: ∀j,j<L.length→askQ (okE1 tyC) [tyC.elem (L.getD j tyC.zero)]=true:=fun j hj=>ask_true ⟨_,rfl,hmem j hj⟩
 have hsl: ∀(x y:AV) (c:List AV) (j:Nat),IsB c→ ∀q,q∈st36 L c j→frm ([0,1,4,5,6,17,18,19].zip [.lst 1 c .open_,encL tyC L,x,y, .map 0,encL tyC L, .int .i64 (((L.map tyC.elem).length:Nat):Int), .int .i64 j]) q.1=q.2∧(noRef q.2=true∨q.2= .map 0)∧isFsl q.2=false:=by
  intro x y c j hc q hq;simp only[st36,List.mem_cons,List.not_mem_nil,or_false]at hq
  rcases hq with rfl|rfl|rfl|rfl|rfl|rfl
  ·exact⟨rfl, .inl (refB hc),rfl⟩
  ·exact⟨rfl, .inl (encL_noRef _ _),rfl⟩
  ·exact⟨rfl, .inr rfl,rfl⟩
  ·exact⟨rfl, .inl (encL_noRef _ _),rfl⟩
  ·exact⟨rfl, .inl rfl,rfl⟩
  ·exact⟨rfl, .inl rfl,rfl⟩
 have hrt: ∀(v1 v2 v3 v4 v5 v6:AV),∀q,q∈ [(4,AV.nils),(5,AV.int .i64 11)]→frm ([0,1,4,5,6,17,18,19].zip [v1,v2, .nils, .int .i64 11,v3,v4,v5,v6]) q.1=q.2∧(noRef q.2=true∨q.2= .map 0)∧isFsl q.2=false:=by
  intro v1 v2 v3 v4 v5 v6 q hq;simp only[List.mem_cons,List.not_mem_nil,or_false]at hq
  rcases hq with rfl|rfl
  ·exact⟨rfl, .inl rfl,rfl⟩
  ·exact⟨rfl, .inl rfl,rfl⟩
 have hgood: ∀{j:Nat},(∀k,k<j→ ¬goodC (L.getD k tyC.zero)=false)→ ∀k,k<j→goodC (L.getD k tyC.zero)=true:=fun h k hk=>by
  cases hg:goodC (L.getD k tyC.zero)with
  |true=>rfl
  |false=>exact absurd hg (h k hk)
 have hT:=find_roundsH (E:=E0) (N:=38) (h0:= []) (c:=sub (bodyOf Tryz.f29) [1,1,1,1,0,1,0,0]) (p:=fun j=>goodC (L.getD j tyC.zero)=false) (n:=L.length) (st:=fun j=>st36 L (upB b L j) j) (hm:=fun j=> [.map (setBy tyC.elem (uniq L j))]) (rt:=fun _=> [(4, .nils),(5, .int .i64 11)]) (id:=0)
  (fun j hj hpre hp=>by
   have ht:=p36 L (upB b L j) (setBy tyC.elem (uniq L j)) (((L.map tyC.elem).length:Nat):Int) j
   have hg:goodC (L.getD j tyC.zero)=true:=by
    cases hg:goodC (L.getD j tyC.zero)with
    |true=>rfl
    |false=>exact absurd hg hp
   obtain⟨po,pm⟩:=setBy_put (P:=Tryz.prog) (S:=E0.S) (kt:=57) eqT_C plain_C (L.getD j tyC.zero) (uniq L j)
   have hq:askQ okLay [.lst 1 (upB b L j) .open_,tyC.elem (L.getD j tyC.zero)]=true:=ask_true ⟨_,_,rfl,upB_isB hb L j,by
    have:=upB_len (b:=b) (L:=L) j (by omega) (fun k hk=>hfit k (by omega) (hgood hpre k hk))
    omega,hmem j hj,hfit j hj hg⟩
   rw[idx_ok hj f0,lt_ok hj,Int.toNat_natCast,getD_elem hj,wrap_next (by omega),shape_C,hqg j hj,goodA_eq,hg,po,pm,hq,layA_eq,←upB_next b L j hj,←uniq_next L j tyC.zero hj]at ht
   exact seen36 (extra:= [_]) (congrArg T.run ht) (hsl _ _ _ _ (upB_isB hb L _)))
  (fun j hj hpre hp=>by
   have ht:=p36 L (upB b L j) (setBy tyC.elem (uniq L j)) (((L.map tyC.elem).length:Nat):Int) j
   rw[idx_ok hj f0,lt_ok hj,Int.toNat_natCast,getD_elem hj,shape_C,hqg j hj,goodA_eq,hp]at ht
   exact seen36 (extra:= [_]) (congrArg T.run ht) (hrt _ _ _ _ _ _))
  (by
   have ht:=p36 L (upB b L L.length) (setBy tyC.elem (uniq L L.length)) (((L.map tyC.elem).length:Nat):Int) L.length
   rw[lt_no]at ht
   exact seen36 (extra:= []) (congrArg T.run ht) (hsl _ _ _ _ (upB_isB hb L _)))
 have e0:upB b L 0=b++numB (((L.map tyC.elem).length:Nat):Int):=by simp[upB]
 have e1:setBy tyC.elem (uniq L 0)= []:=by rw[uniq_zero];rfl
 simp only[e0,e1]at hT
 have hS:(askS
 [AV.lst (1:Nat) (b++numB (↑(List.map tyC.elem L).length:Int)) Tl.open_,
  AV.lst (5:Nat) (List.map tyC.elem L) Tl.open_,AV.map (0:Nat),AV.lst (5:Nat) (List.map tyC.elem L) Tl.open_,
  AV.int IntKind.i64 (↑(List.map tyC.elem L).length:Int),AV.int IntKind.i64 (0:Int)]
 [AV.lst (1:Nat) (b++numB (↑(List.map tyC.elem L).length:Int)) Tl.open_,
  AV.lst (5:Nat) (List.map tyC.elem L) Tl.open_,AV.map (0:Nat),AV.lst (5:Nat) (List.map tyC.elem L) Tl.open_,
  AV.int IntKind.i64 (↑(List.map tyC.elem L).length:Int),AV.int IntKind.i64 (↑(0:Nat):Int)]
 [Blk.map []] [Blk.map []])=true:=askS_self _ _
 have hq0:okPu [.lst 1 b .open_, .int .i64 (((L.map tyC.elem).length:Nat):Int)]:=okPu_of hb (by omega) (by rw[hlen];omega);have hbf:decide ((256:Int)<(((L.map tyC.elem).length:Nat):Int))=false:=decide_eq_false (by rw[hlen];omega)
 cases hf:firstI (fun j=>goodC (L.getD j tyC.zero)=false) L.length with
 |some i=>
  rw[hf]at hT hR;have hk:KOK E0 38 [] (bodyOf Tryz.f29) (kAt [1,1,1,1,0,1] (st36 L (b++numB (((L.map tyC.elem).length:Nat):Int)) 0) [.map []] .ret [(4, .nils),(5, .int .i64 11)] [.map (setBy tyC.elem (uniq L i))]):=kAt_ok (Tri.block (id:=0) (Tri.loop hT));exact fin hk ((congrArg T.run (p36s L b _)).trans (bF hbf (bA (bT hS rfl) hq0))) (poolR_no hR (by decide))
 |none=>
  rw[hf]at hT hR;have hk:KOK E0 38 [] (bodyOf Tryz.f29) (kAt [1,1,1,1,0,1] (st36 L (b++numB (((L.map tyC.elem).length:Nat):Int)) 0) [.map []] .normal (st36 L (upB b L L.length) L.length) [.map (setBy tyC.elem (uniq L L.length))]):=kAt_ok (Tri.block (id:=0) (Tri.loop hT))
  have hu:decide (((setBy tyC.elem (uniq L L.length)).length:Int)<(((L.map tyC.elem).length:Nat):Int))=ask (dupC L L.length):=by
   refine ask_iff ?_
   rw[decide_eq_true_iff,hlen];have:=(uniq_len L tyC.zero L.length (Nat.le_refl _)).2;simp only[setBy,List.length_map];unfold dupC;rw[←this];omega
  have hr:=(congrArg T.run (p36n L b (upB b L L.length) (setBy tyC.elem (uniq L L.length))))
  rw[hu]at hr
  cases hd:ask (dupC L L.length)with
  |true=>
   rw[hd]at hr hR;exact fin hk (hr.trans (bF hbf (bA (bT hS rfl) hq0))) (poolR_no hR (by decide))
  |false=>
   rw[hd]at hr hR;exact fin hk (hr.trans (bF hbf (bA (bT hS rfl) hq0))) (by unfold poolR;rw[hR,if_pos rfl];exact Le.refl _)
def st52(L:List tyC.I)(b:List AV)(t:Bool)(j:Nat):List (Nat×AV):= [(1,encL tyC L),(6, .lst 1 b .open_),(7, .bool t),(8, .int .i64 j)]
theorem p52(L:List tyC.I)(b:List AV)(t:Bool)(i:Int):obsK (XC 62 [13,21,34,37,48] [clPu 86,clQ,clFi]) (fun _=>none) 50 (sub (bodyOf Tryz.f62) [1,1,1,1,0,1,0,0]) [1,1,1,1,0,1,0,0] (frm [(1,encL tyC L),(6, .lst 1 b .open_),(7, .bool t),(8, .int .i64 i)]) [] [1,4,5,6,7,8]=
 (T.br (decide (i<(↑(List.map tyC.elem L).length:Int))) (T.br (decide ((0:Int)≤i)&&decide (i<(↑(List.map tyC.elem L).length:Int))&&fitsC Tryz.prog (57:Nat) ((List.map tyC.elem L).getD i.toNat undef)) (T.br (askQ okR3 [AV.lst 1 b Tl.open_,AV.agg [AV.int IntKind.i64 (((List.map tyC.elem L).getD i.toNat undef).cells.getD 0 undef).toI,AV.int IntKind.i64 (((List.map tyC.elem L).getD
 i.toNat undef).cells.getD 1 undef).toI,AV.str (((List.map tyC.elem L).getD i.toNat undef).cells.getD 2 undef).toS,AV.str (((List.map tyC.elem L).getD i.toNat undef).cells.getD 3 undef).toS,AV.str (((List.map tyC.elem L).getD i.toNat undef).cells.getD 4 undef).toS]]) (T.br (!decide ((match goodA [AV.agg [AV.int IntKind.i64 (((List.map tyC.elem L).getD i.toNat undef).cells.getD 0 undef).toI,
 AV.int IntKind.i64 (((List.map tyC.elem L).getD i.toNat undef).cells.getD 1 undef).toI,AV.str (((List.map tyC.elem L).getD i.toNat undef).cells.getD 2 undef).toS,AV.str (((List.map tyC.elem L).getD i.toNat undef).cells.getD 3 undef).toS,AV.str (((List.map tyC.elem L).getD i.toNat undef).cells.getD 4 undef).toS]]with|true=>(0:Int)|false=>(11:Int))=(0:Int))) (T.leaf ((X.ret,
 [AV.lst 5 (List.map tyC.elem L) Tl.open_,AV.nils,AV.int IntKind.i64 (match goodA [AV.agg [AV.int IntKind.i64 (((List.map tyC.elem L).getD i.toNat undef).cells.getD 0 undef).toI,AV.int IntKind.i64 (((List.map tyC.elem L).getD i.toNat undef).cells.getD 1 undef).toI,AV.str (((List.map tyC.elem L).getD i.toNat undef).cells.getD 2 undef).toS,AV.str (((List.map tyC.elem L).getD i.toNat
 undef).cells.getD 3 undef).toS,AV.str (((List.map tyC.elem L).getD i.toNat undef).cells.getD 4 undef).toS]]with|true=>0|false=>11),AV.lst 1 b Tl.open_,AV.bool t,AV.int IntKind.i64 i],[]))) (T.br (t) (T.leaf ((X.normal,[AV.lst 5 (List.map tyC.elem L) Tl.open_,AV.fsl 0 [],AV.fsl 0 [],AV.lst 1 (putQ [AV.lst 1 b Tl.open_,AV.agg [AV.int IntKind.i64 (((List.map tyC.elem L).getD i.toNat
 undef).cells.getD 0 undef).toI,AV.int IntKind.i64 (((List.map tyC.elem L).getD i.toNat undef).cells.getD 1 undef).toI,AV.str (((List.map tyC.elem L).getD i.toNat undef).cells.getD 2 undef).toS,AV.str (((List.map tyC.elem L).getD i.toNat undef).cells.getD 3 undef).toS,AV.str (((List.map tyC.elem L).getD i.toNat undef).cells.getD 4 undef).toS]]) Tl.open_,AV.bool true,AV.int IntKind.i64
 (IntKind.i64.wrap (i+1))],[]))) (T.br (decide ((0:Int)≤i)&&decide (i<(↑(List.map tyC.elem L).length:Int))&&fitsC Tryz.prog (57:Nat) ((List.map tyC.elem L).getD i.toNat undef)) (T.br (askQ okFi [AV.lst 5 (List.map tyC.elem L) Tl.open_,AV.agg [AV.int IntKind.i64 (((List.map tyC.elem L).getD i.toNat undef).cells.getD 0 undef).toI,AV.int IntKind.i64 (((List.map tyC.elem L).getD
 i.toNat undef).cells.getD 1 undef).toI,AV.str (((List.map tyC.elem L).getD i.toNat undef).cells.getD 2 undef).toS,AV.str (((List.map tyC.elem L).getD i.toNat undef).cells.getD 3 undef).toS,AV.str (((List.map tyC.elem L).getD i.toNat undef).cells.getD 4 undef).toS]]) (T.leaf ((X.normal,[AV.lst 5 (List.map tyC.elem L) Tl.open_,AV.fsl 0 [],AV.fsl 0 [],AV.lst 1 (putQ [AV.lst 1 b Tl.open_,AV.agg
 [AV.int IntKind.i64 (((List.map tyC.elem L).getD i.toNat undef).cells.getD 0 undef).toI,AV.int IntKind.i64 (((List.map tyC.elem L).getD i.toNat undef).cells.getD 1 undef).toI,AV.str (((List.map tyC.elem L).getD i.toNat undef).cells.getD 2 undef).toS,AV.str (((List.map tyC.elem L).getD i.toNat undef).cells.getD 3 undef).toS,AV.str (((List.map tyC.elem L).getD i.toNat undef).cells.getD 4
 undef).toS]]) Tl.open_,AV.bool (decide (findQ [AV.lst 5 (List.map tyC.elem L) Tl.open_,AV.agg [AV.int IntKind.i64 (((List.map tyC.elem L).getD i.toNat undef).cells.getD 0 undef).toI,AV.int IntKind.i64 (((List.map tyC.elem L).getD i.toNat undef).cells.getD 1 undef).toI,AV.str (((List.map tyC.elem L).getD i.toNat undef).cells.getD 2 undef).toS,AV.str (((List.map tyC.elem L).getD i.toNat
 undef).cells.getD 3 undef).toS,AV.str (((List.map tyC.elem L).getD i.toNat undef).cells.getD 4 undef).toS]]<i)),AV.int IntKind.i64 (IntKind.i64.wrap (i+1))],[]))) T.fail) T.fail))) T.fail) T.fail) (T.leaf ((X.exit 0,[AV.lst 5 (List.map tyC.elem L) Tl.open_,AV.fsl 0 [],AV.fsl 0 [],AV.lst 1 b Tl.open_,AV.bool t,AV.int IntKind.i64 i],[])))):=by kernel_rfl
theorem p52s(L:List tyC.I)(b:List AV):runV (XC 62 [13,21,34,37,48] [clPu 86,clQ,clFi]) (kAt [1,1,1,1,0,1] (st52 L (b++numB (((L.map tyC.elem).length:Nat):Int)) false 0) [] .ret [(4, .nils),(5, .int .i64 11)] []) Tryz.f62 (bodyOf Tryz.f62) [.lst 1 b .open_,encL tyC L]=
 (T.br (decide ((256:Int)<(↑(List.map tyC.elem L).length:Int))) (T.leaf (AV.tup [AV.nils,AV.int IntKind.i64 6])) (T.br (askQ okPu [AV.lst 1 b Tl.open_,AV.int IntKind.i64 (↑(List.map tyC.elem L).length:Int)]) (T.br (askS [AV.lst 5 (List.map tyC.elem L) Tl.open_,AV.lst 1 (b++numB (↑(List.map tyC.elem L).length:Int)) Tl.open_,AV.bool false,AV.int IntKind.i64 (0:Int)] [AV.lst 5
 (List.map tyC.elem L) Tl.open_,AV.lst 1 (b++numB (↑(List.map tyC.elem L).length:Int)) Tl.open_,AV.bool false,AV.int IntKind.i64 (↑(0:Nat):Int)] [] []) (T.leaf (AV.tup [AV.nils,AV.int IntKind.i64 11])) T.fail) T.fail)):=by kernel_rfl
theorem p52n(L:List tyC.I)(b:List AV)(c:List AV)(t:Bool):runV (XC 62 [13,21,34,37,48] [clPu 86,clQ,clFi]) (kAt [1,1,1,1,0,1] (st52 L (b++numB (((L.map tyC.elem).length:Nat):Int)) false 0) [] .normal (st52 L c t L.length) []) Tryz.f62 (bodyOf Tryz.f62) [.lst 1 b .open_,encL tyC L]=
 (T.br (decide ((256:Int)<(↑(List.map tyC.elem L).length:Int))) (T.leaf (AV.tup [AV.nils,AV.int IntKind.i64 6])) (T.br (askQ okPu [AV.lst 1 b Tl.open_,AV.int IntKind.i64 (↑(List.map tyC.elem L).length:Int)]) (T.br (askS [AV.lst 5 (List.map tyC.elem L) Tl.open_,AV.lst 1 (b++numB (↑(List.map tyC.elem L).length:Int)) Tl.open_,AV.bool false,AV.int IntKind.i64 (0:Int)] [AV.lst 5
 (List.map tyC.elem L) Tl.open_,AV.lst 1 (b++numB (↑(List.map tyC.elem L).length:Int)) Tl.open_,AV.bool false,AV.int IntKind.i64 (↑(0:Nat):Int)] [] []) (T.br (t) (T.leaf (AV.tup [AV.nils,AV.int IntKind.i64 8])) (T.leaf (AV.tup [AV.lst 1 c Tl.open_,AV.int IntKind.i64 0]))) T.fail) T.fail)):=by kernel_rfl
theorem p52x(L:List tyC.I)(b:List AV):runV (XC 62 [13,21,34,37,48] [clPu 86,clQ,clFi]) (kNo [1,1,1,1,0,1]) Tryz.f62 (bodyOf Tryz.f62) [.lst 1 b .open_,encL tyC L]=
 (T.br (decide ((256:Int)<(↑(List.map tyC.elem L).length:Int))) (T.leaf (AV.tup [AV.nils,AV.int IntKind.i64 6])) (T.br (askQ okPu [AV.lst 1 b Tl.open_,AV.int IntKind.i64 (↑(List.map tyC.elem L).length:Int)]) T.fail T.fail)):=by kernel_rfl
theorem calls52:CallOK (XC 62 [13,21,34,37,48] [clPu 86,clQ,clFi]).E (XC 62 [13,21,34,37,48] [clPu 86,clQ,clFi]).calls:=callsBy_ok rfl fun c hc=>by
 rcases List.mem_cons.1 hc with rfl|hc
 ·exact clPu53
 rcases List.mem_cons.1 hc with rfl|hc
 ·exact clQ88
 ·obtain rfl:=List.mem_singleton.1 hc
  exact clFi62
theorem dupC_next(L:List tyC.I)(j:Nat):dupC L (j+1)↔dupC L j∨ ∃k,k<j∧L.getD k tyC.zero=L.getD j tyC.zero:=by
 unfold dupC;constructor
 ·rintro⟨i,hi,hk⟩
  rcases Nat.lt_succ_iff_lt_or_eq.1 hi with h|h
  ·exact .inl ⟨i,h,hk⟩
  ·exact .inr (h▸hk)
 ·rintro(⟨i,hi,hk⟩|hk)
  ·exact⟨i,by omega,hk⟩
  ·exact⟨j,by omega,hk⟩
set_option maxRecDepth 100000 in
theorem con52(L:List tyC.I)(b:List AV)(hb:IsB b)(hbl:b.length≤100000)(hl:L.length<1000000000000000)(hok: ∀x,x∈L→tyC.okay x)(h:H):Con E0 62 [.lst 1 b .open_,encL tyC L] h (poolR b L) h:=by
 have hlen:(L.map tyC.elem).length=L.length:=by simp
 have hn:noRefs [.lst 1 b .open_,encL tyC L]=true:=refs2 hb (encL_noRef _ _)
 have f0:fitsC Tryz.prog 57 (tyC.elem tyC.zero)=true:=by kernel_rfl
 have fin: ∀{K:Known} {v:AV},KOK E0 50 [] (bodyOf Tryz.f62) K→(runV (XC 62 [13,21,34,37,48] [clPu 86,clQ,clFi]) K Tryz.f62 (bodyOf Tryz.f62) [.lst 1 b .open_,encL tyC L]).run= .ok v→Le v (poolR b L)→Con E0 62 [.lst 1 b .open_,encL tyC L] h (poolR b L) h:=fun hk hr hle=>
  Con.pureV (X:=XC 62 [13,21,34,37,48] [clPu 86,clQ,clFi]) g0 noG0 calls52 (fn:=Tryz.f62) Tryz.func62 (c:=bodyOf Tryz.f62) rfl rfl (args:= [.lst 1 b .open_,encL tyC L]) hk hn hr hle (poolR_ref hb L) h
 by_cases h8:256<L.length
 ·exact fin (kNo_ok (p:= [1,1,1,1,0,1])) ((congrArg T.run (p52x L b)).trans (bT (decide_eq_true (by rw[hlen];omega)) rfl)) (poolR_no (if_pos h8) (by decide))
 have hR:poolE L=match firstI (fun j=>goodC (L.getD j tyC.zero)=false) L.length with
    |some _=>11
    |none=>(match ask (dupC L L.length)with|true=>8|false=>0):=if_neg h8
 have hmem: ∀j,j<L.length→tyC.okay (L.getD j tyC.zero):=fun j hj=>hok _ (getD_mem hj)
 have hfit: ∀j,j<L.length→goodC (L.getD j tyC.zero)=true→fitC (L.getD j tyC.zero):=fun j hj hg=>(goodC_sp _ (hmem j hj)).2.2 hg
 have hgood: ∀{j:Nat},(∀k,k<j→ ¬goodC (L.getD k tyC.zero)=false)→ ∀k,k<j→goodC (L.getD k tyC.zero)=true:=fun h k hk=>by
  cases hg:goodC (L.getD k tyC.zero)with
  |true=>rfl
  |false=>exact absurd hg (h k hk)
 have hqf: ∀j,j<L.length→askQ okFi [.lst 5 (L.map tyC.elem) .open_,tyC.elem (L.getD j tyC.zero)]=true:=fun j hj=>ask_true ⟨L,_,rfl,hl⟩
 have hfq: ∀j,findQ [.lst 5 (L.map tyC.elem) .open_,tyC.elem (L.getD j tyC.zero)]=findC L (L.getD j tyC.zero):=fun j=>findQ_eq L _
 have hqr: ∀j,j<L.length→(∀k,k<j→ ¬goodC (L.getD k tyC.zero)=false)→askQ okR3 [.lst 1 (upB b L j) .open_,tyC.elem (L.getD j tyC.zero)]=true:=fun j hj hpre=>ask_true ⟨_,_,rfl,upB_isB hb L j,by
  have:=upB_len (b:=b) (L:=L) j (by omega) (fun k hk=>hfit k (by omega) (hgood hpre k hk))
  omega,hmem j hj⟩
 have hT:=find_roundsH (E:=E0) (N:=50) (h0:= []) (c:=sub (bodyOf Tryz.f62) [1,1,1,1,0,1,0,0]) (p:=fun j=>goodC (L.getD j tyC.zero)=false) (n:=L.length) (st:=fun j=>st52 L (upB b L j) (ask (dupC L j)) j) (hm:=fun _=> []) (rt:=fun _=> [(4, .nils),(5, .int .i64 11)]) (id:=0)
  (fun j hj hpre hp=>by
   have ht:=p52 L (upB b L j) (ask (dupC L j)) j
   have hg:goodC (L.getD j tyC.zero)=true:=by
    cases hg:goodC (L.getD j tyC.zero)with
    |true=>rfl
    |false=>exact absurd hg hp
   have hd:decide (findC L (L.getD j tyC.zero)<(j:Int))=ask (∃k,k<j∧L.getD k tyC.zero=L.getD j tyC.zero):=ask_iff (by rw[decide_eq_true_iff];exact first_lt (p:=fun k=>L.getD k tyC.zero=L.getD j tyC.zero) hj rfl);rw[idx_ok hj f0,lt_ok hj,Int.toNat_natCast,getD_elem hj,wrap_next (by omega),shape_C,hqr j hj hpre,goodA_eq,hg,hqf j hj,hfq j,hd,putA_eq,hg]at ht;simp only at ht;rw[←upB_next b L j hj]at ht
   cases hdj:ask (dupC L j)with
   |true=>
    have hd1:ask (dupC L (j+1))=true:=ask_true ((dupC_next L j).2 (.inl (ask_of hdj)));rw[hdj]at ht;rw[hd1]
    exact Tri.seen g0 calls52 KOK.none rfl (congrArg T.run ht) (by
     intro q hq;simp only[st52,List.mem_cons,List.not_mem_nil,or_false]at hq
     rcases hq with rfl|rfl|rfl|rfl<;>rfl)
   |false=>
    have hd1:ask (dupC L (j+1))=ask (∃k,k<j∧L.getD k tyC.zero=L.getD j tyC.zero):=by
     refine(ask_iff ?_).symm;rw[dupC_next];exact⟨fun h=> .inr (ask_of h),fun h=>ask_true (h.resolve_left fun hh=>by rw[ask_true hh]at hdj;cases hdj)⟩
    rw[hdj]at ht;rw[hd1]
    exact Tri.seen g0 calls52 KOK.none rfl (congrArg T.run ht) (by
     intro q hq;simp only[st52,List.mem_cons,List.not_mem_nil,or_false]at hq
     rcases hq with rfl|rfl|rfl|rfl<;>rfl))
  (fun j hj hpre hp=>by
   have ht:=p52 L (upB b L j) (ask (dupC L j)) j
   rw[idx_ok hj f0,lt_ok hj,Int.toNat_natCast,getD_elem hj,shape_C,hqr j hj hpre,goodA_eq,hp]at ht
   exact Tri.seen g0 calls52 KOK.none rfl (congrArg T.run ht) (by
    intro q hq;simp only[List.mem_cons,List.not_mem_nil,or_false]at hq
    rcases hq with rfl|rfl<;>rfl))
  (by
   have ht:=p52 L (upB b L L.length) (ask (dupC L L.length)) L.length
   rw[lt_no]at ht
   exact Tri.seen g0 calls52 KOK.none rfl (congrArg T.run ht) (by
    intro q hq;simp only[st52,List.mem_cons,List.not_mem_nil,or_false]at hq
    rcases hq with rfl|rfl|rfl|rfl<;>rfl))
 have e0:upB b L 0=b++numB (((L.map tyC.elem).length:Nat):Int):=by simp[upB]
 have e1:ask (dupC L 0)=false:=ask_false fun⟨i,hi,_⟩=>by omega
 simp only[e0,e1]at hT
 have hS:(askS
 [AV.lst (5:Nat) (List.map tyC.elem L) Tl.open_,
  AV.lst (1:Nat) (b++numB (↑(List.map tyC.elem L).length:Int)) Tl.open_,AV.bool false,
  AV.int IntKind.i64 (0:Int)]
 [AV.lst (5:Nat) (List.map tyC.elem L) Tl.open_,
  AV.lst (1:Nat) (b++numB (↑(List.map tyC.elem L).length:Int)) Tl.open_,AV.bool false,
  AV.int IntKind.i64 (↑(0:Nat):Int)]
 [] [])=true:=askS_self _ _
 have hq0:okPu [.lst 1 b .open_, .int .i64 (((L.map tyC.elem).length:Nat):Int)]:=okPu_of hb (by omega) (by rw[hlen];omega);have hbf:decide ((256:Int)<(((L.map tyC.elem).length:Nat):Int))=false:=decide_eq_false (by rw[hlen];omega)
 cases hf:firstI (fun j=>goodC (L.getD j tyC.zero)=false) L.length with
 |some i=>
  rw[hf]at hT hR;have hk:KOK E0 50 [] (bodyOf Tryz.f62) (kAt [1,1,1,1,0,1] (st52 L (b++numB (((L.map tyC.elem).length:Nat):Int)) false 0) [] .ret [(4, .nils),(5, .int .i64 11)] []):=kAt_ok (Tri.block (id:=0) (Tri.loop hT));exact fin hk ((congrArg T.run (p52s L b)).trans (bF hbf (bA (bT hS rfl) hq0))) (poolR_no hR (by decide))
 |none=>
  rw[hf]at hT hR;have hk:KOK E0 50 [] (bodyOf Tryz.f62) (kAt [1,1,1,1,0,1] (st52 L (b++numB (((L.map tyC.elem).length:Nat):Int)) false 0) [] .normal (st52 L (upB b L L.length) (ask (dupC L L.length)) L.length) []):=kAt_ok (Tri.block (id:=0) (Tri.loop hT))
  have hr:=(congrArg T.run (p52n L b (upB b L L.length) (ask (dupC L L.length))))
  cases hd:ask (dupC L L.length)with
  |true=>
   rw[hd]at hr hR hk;exact fin hk (hr.trans (bF hbf (bA (bT hS rfl) hq0))) (poolR_no hR (by decide))
  |false=>
   rw[hd]at hr hR hk;exact fin hk (hr.trans (bF hbf (bA (bT hS rfl) hq0))) (by unfold poolR;rw[hR,if_pos rfl];exact Le.refl _)
noncomputable def X40(L:List tyC.I)(B:List AV)(e:Int):SX:=XC 32 [] [⟨62,fun a=>a= [.nils,encL tyC L],fun _=> .tup [.lst 1 B .open_, .int .i64 e]⟩]
noncomputable def X12(a0 a1:ByteArray)(a2:List tyC.I)(a3:List tyF.I)(a4:List tyM.I)(B:List AV)(e f m:Int):SX:=XC 28 [10,15,23,29] [clN 52,⟨29,fun a=>a= [.nils,encL tyC a2],fun _=> .tup [.lst 1 B .open_, .int .i64 e]⟩,⟨53,fun a=>a= [encL tyF a3],fun _=> .int .i64 f⟩,⟨54,fun a=>a= [encL tyM a4,encL tyC a2],fun _=> .int .i64 m⟩]
theorem p40(L:List tyC.I)(B:List AV)(e:Int):runV (X40 L B e) (fun _=>none) Tryz.f32 (bodyOf Tryz.f32) [encL tyC L]=
 (T.br (askQ (fun a=>a= [AV.nils,encL tyC L]) [AV.nils,AV.lst 5 (List.map tyC.elem L) Tl.open_]) (T.leaf (AV.int IntKind.i64 e)) T.fail):=by kernel_rfl
theorem p12(a0 a1:ByteArray)(a2:List tyC.I)(a3:List tyF.I)(a4:List tyM.I)(B:List AV)(e f m:Int):runV (X12 a0 a1 a2 a3 a4 B e f m) (fun _=>none) Tryz.f28 (bodyOf Tryz.f28) [.agg [.str a0, .str a1,encL tyC a2,encL tyF a3,encL tyM a4]]=
 (T.br (askQ (clN (52:FuncId)).2 [AV.str a0]) (T.br (!nmA [AV.str a0]) (T.br true (T.leaf (AV.int IntKind.i64 7)) (T.br (askQ (fun a=>a= [AV.nils,encL tyC a2]) [AV.nils,AV.lst 5 (List.map tyC.elem a2) Tl.open_]) (T.br (!decide (e=(0:Int))) (T.leaf (AV.int IntKind.i64 e)) (T.br (askQ (fun a=>a= [encL tyF a3]) [AV.lst 2 (List.map tyF.elem a3) Tl.open_]) (T.br (!decide (f=(0:Int)))
 (T.leaf (AV.int IntKind.i64 f)) (T.br (askQ (fun a=>a= [encL tyM a4,encL tyC a2]) [AV.lst 5 (List.map tyM.elem a4) Tl.open_,AV.lst 5 (List.map tyC.elem a2) Tl.open_]) (T.leaf (AV.int IntKind.i64 m)) T.fail)) T.fail)) T.fail)) (T.br (askQ (clN (52:FuncId)).2 [AV.str a1]) (T.br (!nmA [AV.str a1]) (T.leaf (AV.int IntKind.i64 7)) (T.br (askQ (fun a=>a= [AV.nils,encL tyC a2]) [AV.nils,AV.lst
 5 (List.map tyC.elem a2) Tl.open_]) (T.br (!decide (e=(0:Int))) (T.leaf (AV.int IntKind.i64 e)) (T.br (askQ (fun a=>a= [encL tyF a3]) [AV.lst 2 (List.map tyF.elem a3) Tl.open_]) (T.br (!decide (f=(0:Int))) (T.leaf (AV.int IntKind.i64 f)) (T.br (askQ (fun a=>a= [encL tyM a4,encL tyC a2]) [AV.lst 5 (List.map tyM.elem a4) Tl.open_,AV.lst 5 (List.map tyC.elem a2) Tl.open_]) (T.leaf
 (AV.int IntKind.i64 m)) T.fail)) T.fail)) T.fail)) T.fail)) T.fail):=by kernel_rfl
noncomputable def rightE(a0 a1:ByteArray)(a2:List tyC.I)(a3:List tyF.I)(a4:List tyM.I):Int:=match nmA [.str a0]with
 |false=>7
 |true=>match nmA [.str a1]with
  |false=>7
  |true=>if poolE a2=0 then(if fieldsE a3=0 then methodsE a2 a4 else fieldsE a3)else poolE a2
noncomputable def poolL(L:List tyC.I):List AV:=if poolE L=0 then upB [] L L.length else []
theorem nil36(L:List tyC.I)(hl:L.length<1000000000000000)(hok: ∀x,x∈L→tyC.okay x)(h:H):Con E0 29 [.nils,encL tyC L] h (.tup [.lst 1 (poolL L) .open_, .int .i64 (poolE L)]) h:=
 (con36 L [] IsB.nil (by decide) hl hok h).args (.cons (Le.nils nofun) (.cons (Le.refl _) .nil))
theorem nil52(L:List tyC.I)(hl:L.length<1000000000000000)(hok: ∀x,x∈L→tyC.okay x)(h:H):Con E0 62 [.nils,encL tyC L] h (.tup [.lst 1 (poolL L) .open_, .int .i64 (poolE L)]) h:=
 (con52 L [] IsB.nil (by decide) hl hok h).args (.cons (Le.nils nofun) (.cons (Le.refl _) .nil))
theorem con40(L:List tyC.I)(hl:L.length<1000000000000000)(hok: ∀x,x∈L→tyC.okay x)(h:H):Con E0 32 [encL tyC L] h (.int .i64 (poolE L)) h:=by
 have hn:noRefs [encL tyC L]=true:=by simp only[noRefs,encL_noRef,Bool.and_true]
 have hcall:CallOK (X40 L (poolL L) (poolE L)).E (X40 L (poolL L) (poolE L)).calls:=callsBy_ok rfl fun c hc=>by
  obtain rfl:=List.mem_singleton.1 hc;rintro args rfl h;exact nil52 L hl hok h
 exact Con.pureV (X:=X40 L (poolL L) (poolE L)) g0 noG0 hcall (fn:=Tryz.f32) Tryz.func32 (c:=bodyOf Tryz.f32) rfl rfl (args:= [encL tyC L]) KOK.none hn ((congrArg T.run (p40 L (poolL L) (poolE L))).trans (bA rfl rfl)) (Le.refl _) rfl h
theorem con12(a0 a1:ByteArray)(a2:List tyC.I)(a3:List tyF.I)(a4:List tyM.I)(hx:tyK.okay (a0,a1,a2,a3,a4))(h:H):Con E0 28 [tyK.elem (a0,a1,a2,a3,a4)] h (.int .i64 (rightE a0 a1 a2 a3 a4)) h:=by
 have hn:noRefs [tyK.elem (a0,a1,a2,a3,a4)]=true:=noRefs1 tyK (a0,a1,a2,a3,a4);have l2:a2.length<1000000000000000:=Nat.lt_of_le_of_lt hx.2.2.1.1 (by decide);have l3:a3.length<1000000000000000:=Nat.lt_of_le_of_lt hx.2.2.2.1.1 (by decide);have l4:a4.length<1000000000000000:=Nat.lt_of_le_of_lt hx.2.2.2.2.1 (by decide);obtain⟨e,he⟩: ∃e,e=poolE a2:=⟨_,rfl⟩;obtain⟨f,hf⟩: ∃f,f=fieldsE a3:=⟨_,rfl⟩;obtain⟨m,hm⟩: ∃m,m=methodsE a2 a4:=⟨_,rfl⟩
 have hcall:CallOK (X12 a0 a1 a2 a3 a4 (poolL a2) e f m).E (X12 a0 a1 a2 a3 a4 (poolL a2) e f m).calls:=callsBy_ok rfl fun c hc=>by
  rcases List.mem_cons.1 hc with rfl|hc
  ·exact clN35
  rcases List.mem_cons.1 hc with rfl|hc
  ·rintro args rfl h
   rw[he];exact nil36 a2 l2 hx.2.2.1.2 h
  rcases List.mem_cons.1 hc with rfl|hc
  ·rintro args rfl h
   rw[hf];exact con37 a3 l3 hx.2.2.2.1.2 h
  ·obtain rfl:=List.mem_singleton.1 hc
   rintro args rfl h;rw[hm];exact con38 a2 a4 l4 hx.2.2.2.2.2 h
 have hR:rightE a0 a1 a2 a3 a4=(match nmA [.str a0]with
  |false=>7
  |true=>match nmA [.str a1]with
   |false=>7
   |true=>if e=0 then(if f=0 then m else f)else e):=by rw[he,hf,hm];rfl
 refine Con.pureV (X:=X12 a0 a1 a2 a3 a4 (poolL a2) e f m) g0 noG0 hcall (fn:=Tryz.f28) Tryz.func28 (c:=bodyOf Tryz.f28) rfl rfl (args:= [tyK.elem (a0,a1,a2,a3,a4)]) KOK.none hn (v:= .int .i64 (rightE a0 a1 a2 a3 a4)) ?_ (Le.refl _) rfl h
 refine(congrArg T.run (p12 a0 a1 a2 a3 a4 (poolL a2) e f m)).trans ?_
 rw[hR];have k0:(clN 52).ok [.str a0]:=⟨a0,rfl,hx.1⟩;have k1:(clN 52).ok [.str a1]:=⟨a1,rfl,hx.2.1⟩
 refine bA ?_ k0
 cases nmA [.str a0]with
 |false=>exact bT rfl (bT rfl rfl)
 |true=>
  refine bF rfl (bA ?_ k1)
  cases nmA [.str a1]with
  |false=>exact bT rfl rfl
  |true=>
   refine bF rfl (bA ?_ rfl)
   by_cases h0:e=0
   ·rw[if_pos h0]
    refine bF (by rw[decide_eq_true h0];rfl) (bA ?_ rfl)
    by_cases h1:f=0
    ·rw[if_pos h1]
     exact bF (by rw[decide_eq_true h1];rfl) (bA rfl rfl)
    ·rw[if_neg h1]
     exact bT (by rw[decide_eq_false h1];rfl) rfl
   ·rw[if_neg h0]
    exact bT (by rw[decide_eq_false h0];rfl) rfl
def encS(p:tyK.I×ByteArray):List AV:= [tyK.elem p.1, .str p.2]
theorem encS_inj(x y:tyK.I×ByteArray)(h:encS x=encS y):x=y:=by
 obtain⟨a,b⟩:=x;obtain⟨c,d⟩:=y;simp only[encS,List.cons.injEq,AV.str.injEq,and_true]at h;rw[Ty.elem_inj h.1,h.2]
def encN(p:tyK.I×Int):List AV:= [tyK.elem p.1, .int .i64 p.2]
theorem encN_inj(x y:tyK.I×Int)(h:encN x=encN y):x=y:=by
 obtain⟨a,b⟩:=x;obtain⟨c,d⟩:=y;simp only[encN,List.cons.injEq,AV.int.injEq,true_and,and_true]at h;rw[Ty.elem_inj h.1,h.2]
def fsK:tyK.I→List tyF.I:=fun(_,_,_,L,_)=>L
def msK:tyK.I→List tyM.I:=fun(_,_,_,_,L)=>L
def csK:tyK.I→List tyC.I:=fun(_,_,L,_,_)=>L
noncomputable def fieldQ:List AV→Int:=pick 0 encS fun p=>placeOf (firstI (fun j=>nmF ((fsK p.1).getD j tyF.zero)=p.2) (fsK p.1).length)
noncomputable def methQ:List AV→Int:=pick 0 encN fun p=>methodE (csK p.1) (msK p.1) p.2.toNat
def okF15(args:List AV):Prop:= ∃(x:tyK.I) (s:ByteArray),args= [tyK.elem x, .str s]∧(fsK x).length<1000000000000000
def okM42(args:List AV):Prop:= ∃(x:tyK.I) (i:Nat),args= [tyK.elem x, .int .i64 i]∧tyK.okay x∧i<(msK x).length
noncomputable def cl15:Cl:=⟨60,okF15,fun args=> .int .i64 (fieldQ args)⟩
noncomputable def cl42:Cl:=⟨61,okM42,fun args=> .int .i64 (methQ args)⟩
theorem cl15_ok: ∀args,cl15.ok args→ ∀h,Con E0 cl15.f args h (cl15.res args) h:=by
 rintro args ⟨x,s,rfl,hl⟩ h;have e:fieldQ [tyK.elem x, .str s]=placeOf (firstI (fun j=>nmF ((fsK x).getD j tyF.zero)=s) (fsK x).length):=pick_eq encS_inj (x,s);show Con E0 60 _ h (.int .i64 (fieldQ [tyK.elem x, .str s])) h;rw[e];obtain⟨a0,a1,a2,a3,a4⟩:=x;exact con15r a0 a1 a2 a3 a4 s hl h
theorem cl42_ok: ∀args,cl42.ok args→ ∀h,Con E0 cl42.f args h (cl42.res args) h:=by
 rintro args ⟨x,i,rfl,hx,hi⟩ h;have e:methQ [tyK.elem x, .int .i64 i]=methodE (csK x) (msK x) i:=pick_eq encN_inj (x,(i:Int));show Con E0 61 _ h (.int .i64 (methQ [tyK.elem x, .int .i64 i])) h;rw[e];obtain⟨a0,a1,a2,a3,a4⟩:=x;exact con42 (a0,a1,a2,a3,a4) i hx hi h
noncomputable def cs13:List Cl:= [cl15]
noncomputable def E13:Env:={E0 with C:=lightC cs13,LC:=fun f=>f==60}
noncomputable def X13(a2:List tyC.I)(e:Int):SX:={E:=E13,f:=31,con:=fun _=>false,split:=fun d=> [11,16,21,26,31,41,49,59,63,68,75].contains d,call:=callsBy [clN 58,clD 59,cl15,cl42,⟨32,fun a=>a= [encL tyC a2],fun _=> .int .i64 e⟩],lit:=fun f=>f==60}
def st13a(j:Nat):List (Nat×AV):= [(1, .ptr 0 0),(4, .int .i64 j)]
def st13b(j:Nat):List (Nat×AV):= [(1, .ptr 0 0),(5, .int .i64 j)]
def k13a:List (Nat×AV):= [(1, .ptr 0 0)]
theorem p13a(a0 a1:ByteArray)(a2:List tyC.I)(a3:List tyF.I)(a4:List tyM.I)(e:Int)(i:Int):obsK (X13 a2 e) (fun _=>none) 77 (sub (bodyOf Tryz.f31) [1,1,1,1,1,0,1,0,0]) [1,1,1,1,1,0,1,0,0] (frm [(1, .ptr 0 0),(4, .int .i64 i)]) [.var [.str a0, .str a1,encL tyC a2,encL tyF a3,encL tyM a4]] [1,2,3,4]=
 (T.br (decide (i<(↑(List.map tyF.elem a3).length:Int))) (T.br (decide ((0:Int)≤i)&&decide (i<(↑(List.map tyF.elem a3).length:Int))&&fitsC Tryz.prog (86:Nat) ((List.map tyF.elem a3).getD i.toNat undef)) (T.br (askQ (clN (58:FuncId)).2 [AV.str (((List.map tyF.elem a3).getD i.toNat undef).cells.getD 0 undef).toS]) (T.br (!nmA [AV.str (((List.map tyF.elem a3).getD i.toNat
 undef).cells.getD 0 undef).toS]) (T.leaf ((X.ret,[AV.ptr 0 0,AV.int IntKind.i64 7,AV.fsl 0 [],AV.int IntKind.i64 i],[Blk.var [AV.str a0,AV.str a1,AV.lst 5 (List.map tyC.elem a2) Tl.open_,AV.lst 2 (List.map tyF.elem a3) Tl.open_,AV.lst 5 (List.map tyM.elem a4) Tl.open_]]))) (T.br (decide ((0:Int)≤i)&&decide (i<(↑(List.map tyF.elem a3).length:Int))&&fitsC Tryz.prog (86:Nat)
 ((List.map tyF.elem a3).getD i.toNat undef)) (T.br (askQ (clD (59:FuncId)).2 [AV.str (((List.map tyF.elem a3).getD i.toNat undef).cells.getD 1 undef).toS]) (T.br (!dsA [AV.str (((List.map tyF.elem a3).getD i.toNat undef).cells.getD 1 undef).toS]) (T.leaf ((X.ret,[AV.ptr 0 0,AV.int IntKind.i64 10,AV.fsl 0 [],AV.int IntKind.i64 i],[Blk.var [AV.str a0,AV.str a1,AV.lst 5 (List.map tyC.elem a2)
 Tl.open_,AV.lst 2 (List.map tyF.elem a3) Tl.open_,AV.lst 5 (List.map tyM.elem a4) Tl.open_]]))) (T.br (decide ((0:Int)≤i)&&decide (i<(↑(List.map tyF.elem a3).length:Int))&&fitsC Tryz.prog (86:Nat) ((List.map tyF.elem a3).getD i.toNat undef)) (T.br (askQ okF15 [AV.agg [AV.str a0,AV.str a1,AV.lst 5 (List.map tyC.elem a2) Tl.open_,AV.lst 2 (List.map tyF.elem a3) Tl.open_,AV.lst 5
 (List.map tyM.elem a4) Tl.open_],AV.str (((List.map tyF.elem a3).getD i.toNat undef).cells.getD 0 undef).toS]) (T.br (askL E13 (60:Nat) [AV.agg [AV.str a0,AV.str a1,AV.lst 5 (List.map tyC.elem a2) Tl.open_,AV.lst 2 (List.map tyF.elem a3) Tl.open_,AV.lst 5 (List.map tyM.elem a4) Tl.open_],AV.str (((List.map tyF.elem a3).getD i.toNat undef).cells.getD 0 undef).toS] (AV.int IntKind.i64 (fieldQ
 [AV.agg [AV.str a0,AV.str a1,AV.lst 5 (List.map tyC.elem a2) Tl.open_,AV.lst 2 (List.map tyF.elem a3) Tl.open_,AV.lst 5 (List.map tyM.elem a4) Tl.open_],AV.str (((List.map tyF.elem a3).getD i.toNat undef).cells.getD 0 undef).toS]))) (T.br (decide (fieldQ [AV.agg [AV.str a0,AV.str a1,AV.lst 5 (List.map tyC.elem a2) Tl.open_,AV.lst 2 (List.map tyF.elem a3) Tl.open_,AV.lst 5 (List.map
 tyM.elem a4) Tl.open_],AV.str (((List.map tyF.elem a3).getD i.toNat undef).cells.getD 0 undef).toS]<i)) (T.leaf ((X.ret,[AV.ptr 0 0,AV.int IntKind.i64 8,AV.fsl 0 [],AV.int IntKind.i64 i],[Blk.var [AV.str a0,AV.str a1,AV.lst 5 (List.map tyC.elem a2) Tl.open_,AV.lst 2 (List.map tyF.elem a3) Tl.open_,AV.lst 5 (List.map tyM.elem a4) Tl.open_]]))) (T.leaf ((X.normal,[AV.ptr 0 0,AV.fsl 0
 [],AV.fsl 0 [],AV.int IntKind.i64 (IntKind.i64.wrap (i+1))],[Blk.var [AV.str a0,AV.str a1,AV.lst 5 (List.map tyC.elem a2) Tl.open_,AV.lst 2 (List.map tyF.elem a3) Tl.open_,AV.lst 5 (List.map tyM.elem a4) Tl.open_]])))) T.fail) T.fail) T.fail)) T.fail) T.fail)) T.fail) T.fail) (T.leaf ((X.exit 0,[AV.ptr 0 0,AV.fsl 0 [],AV.fsl 0 [],AV.int IntKind.i64 i],[Blk.var [AV.str a0,AV.str a1,
 AV.lst 5 (List.map tyC.elem a2) Tl.open_,AV.lst 2 (List.map tyF.elem a3) Tl.open_,AV.lst 5 (List.map tyM.elem a4) Tl.open_]])))):=by kernel_rfl
theorem p13b(a0 a1:ByteArray)(a2:List tyC.I)(a3:List tyF.I)(a4:List tyM.I)(e:Int)(i:Int):obsK (X13 a2 e) (fun _=>none) 77 (sub (bodyOf Tryz.f31) [1,1,1,1,1,1,1,0,1,0,0]) [1,1,1,1,1,1,1,0,1,0,0] (frm [(1, .ptr 0 0),(5, .int .i64 i)]) [.var [.str a0, .str a1,encL tyC a2,encL tyF a3,encL tyM a4]] [1,2,3,5]=
 (T.br (decide (i<(↑(List.map tyM.elem a4).length:Int))) (T.br (askQ okM42 [AV.agg [AV.str a0,AV.str a1,AV.lst 5 (List.map tyC.elem a2) Tl.open_,AV.lst 2 (List.map tyF.elem a3) Tl.open_,AV.lst 5 (List.map tyM.elem a4) Tl.open_],AV.int IntKind.i64 i]) (T.br (!decide (methQ [AV.agg [AV.str a0,AV.str a1,AV.lst 5 (List.map tyC.elem a2) Tl.open_,AV.lst 2 (List.map tyF.elem a3) Tl.open_,
 AV.lst 5 (List.map tyM.elem a4) Tl.open_],AV.int IntKind.i64 i]=(0:Int))) (T.leaf ((X.ret,[AV.ptr 0 0,AV.int IntKind.i64 (methQ [AV.agg [AV.str a0,AV.str a1,AV.lst 5 (List.map tyC.elem a2) Tl.open_,AV.lst 2 (List.map tyF.elem a3) Tl.open_,AV.lst 5 (List.map tyM.elem a4) Tl.open_],AV.int IntKind.i64 i]),AV.fsl 0 [],AV.int IntKind.i64 i],[Blk.var [AV.str a0,AV.str a1,AV.lst 5
 (List.map tyC.elem a2) Tl.open_,AV.lst 2 (List.map tyF.elem a3) Tl.open_,AV.lst 5 (List.map tyM.elem a4) Tl.open_]]))) (T.leaf ((X.normal,[AV.ptr 0 0,AV.fsl 0 [],AV.fsl 0 [],AV.int IntKind.i64 (IntKind.i64.wrap (i+1))],[Blk.var [AV.str a0,AV.str a1,AV.lst 5 (List.map tyC.elem a2) Tl.open_,AV.lst 2 (List.map tyF.elem a3) Tl.open_,AV.lst 5 (List.map tyM.elem a4) Tl.open_]])))) T.fail)
 (T.leaf ((X.exit 2,[AV.ptr 0 0,AV.fsl 0 [],AV.fsl 0 [],AV.int IntKind.i64 i],[Blk.var [AV.str a0,AV.str a1,AV.lst 5 (List.map tyC.elem a2) Tl.open_,AV.lst 2 (List.map tyF.elem a3) Tl.open_,AV.lst 5 (List.map tyM.elem a4) Tl.open_]])))):=by kernel_rfl
theorem p13nn(a0 a1:ByteArray)(a2:List tyC.I)(a3:List tyF.I)(a4:List tyM.I)(e:Int):runV (X13 a2 e) (kTwo (kAt [1,1,1,1,1,0,1] (st13a 0) [.var [.str a0, .str a1,encL tyC a2,encL tyF a3,encL tyM a4]] .normal k13a [.var [.str a0, .str a1,encL tyC a2,encL tyF a3,encL tyM a4]]) (kAt [1,1,1,1,1,1,1,0,1] (st13b 0) [.var [.str a0, .str a1,encL tyC a2,encL tyF a3,encL tyM a4]] .normal [] [.var [.str a0, .str a1,encL tyC a2,encL tyF a3,encL tyM a4]])) Tryz.f31 (bodyOf Tryz.f31) [.agg [.str a0, .str a1,encL tyC a2,encL tyF a3,encL tyM a4]]=
 ((fun(s0:T AV)=>((fun(s1:T AV)=>((fun(s2:T AV)=>(T.br (askQ (clN (58:FuncId)).2 [AV.str a0]) (T.br (!nmA [AV.str a0]) (T.br true (T.leaf (AV.int IntKind.i64 7)) (T.br (askQ (fun a=>a= [encL tyC a2]) [AV.lst 5 (List.map tyC.elem a2) Tl.open_]) s2 T.fail)) (T.br (askQ (clN (58:FuncId)).2 [AV.str a1]) (T.br (!nmA [AV.str a1]) (T.leaf (AV.int IntKind.i64 7)) (T.br (askQ (fun a=>
 a= [encL tyC a2]) [AV.lst 5 (List.map tyC.elem a2) Tl.open_]) s2 T.fail)) T.fail)) T.fail)) (T.br (!decide (e=(0:Int))) (T.leaf (AV.int IntKind.i64 e)) (T.br (decide ((16:Int)<(↑(List.map tyF.elem a3).length:Int))) (T.leaf (AV.int IntKind.i64 6)) s1)))) (T.br (askS [AV.ptr 0 (0:Nat),AV.int IntKind.i64 (0:Int)] [AV.ptr 0 (0:Nat),AV.int IntKind.i64 (↑(0:Nat):Int)] [Blk.var
 [AV.str a0,AV.str a1,AV.lst 5 (List.map tyC.elem a2) Tl.open_,AV.lst 2 (List.map tyF.elem a3) Tl.open_,AV.lst 5 (List.map tyM.elem a4) Tl.open_]] [Blk.var [AV.str a0,AV.str a1,AV.lst 5 (List.map tyC.elem a2) Tl.open_,AV.lst 2 (List.map tyF.elem a3) Tl.open_,AV.lst 5 (List.map tyM.elem a4) Tl.open_]]) (T.br (decide ((32:Int)<(↑(List.map tyM.elem a4).length:Int))) (T.leaf (AV.int
 IntKind.i64 6)) s0) T.fail))) (T.br (askS [AV.ptr 0 (0:Nat),AV.int IntKind.i64 (0:Int)] [AV.ptr 0 (0:Nat),AV.int IntKind.i64 (↑(0:Nat):Int)] [Blk.var [AV.str a0,AV.str a1,AV.lst 5 (List.map tyC.elem a2) Tl.open_,AV.lst 2 (List.map tyF.elem a3) Tl.open_,AV.lst 5 (List.map tyM.elem a4) Tl.open_]] [Blk.var [AV.str a0,AV.str a1,AV.lst 5 (List.map tyC.elem a2) Tl.open_,AV.lst 2
 (List.map tyF.elem a3) Tl.open_,AV.lst 5 (List.map tyM.elem a4) Tl.open_]]) (T.leaf (AV.int IntKind.i64 0)) T.fail)):=by kernel_rfl
theorem p13nr(a0 a1:ByteArray)(a2:List tyC.I)(a3:List tyF.I)(a4:List tyM.I)(e:Int)(f:Int):runV (X13 a2 e) (kTwo (kAt [1,1,1,1,1,0,1] (st13a 0) [.var [.str a0, .str a1,encL tyC a2,encL tyF a3,encL tyM a4]] .normal k13a [.var [.str a0, .str a1,encL tyC a2,encL tyF a3,encL tyM a4]]) (kAt [1,1,1,1,1,1,1,0,1] (st13b 0) [.var [.str a0, .str a1,encL tyC a2,encL tyF a3,encL tyM a4]] .ret [(2, .int .i64 f)] [.var [.str a0, .str a1,encL tyC a2,encL tyF a3,encL tyM a4]])) Tryz.f31 (bodyOf Tryz.f31) [.agg [.str a0, .str a1,encL tyC a2,encL tyF a3,encL tyM a4]]=
 ((fun(s0:T AV)=>((fun(s1:T AV)=>((fun(s2:T AV)=>(T.br (askQ (clN (58:FuncId)).2 [AV.str a0]) (T.br (!nmA [AV.str a0]) (T.br true (T.leaf (AV.int IntKind.i64 7)) (T.br (askQ (fun a=>a= [encL tyC a2]) [AV.lst 5 (List.map tyC.elem a2) Tl.open_]) s2 T.fail)) (T.br (askQ (clN (58:FuncId)).2 [AV.str a1]) (T.br (!nmA [AV.str a1]) (T.leaf (AV.int IntKind.i64 7)) (T.br (askQ (fun a=>
 a= [encL tyC a2]) [AV.lst 5 (List.map tyC.elem a2) Tl.open_]) s2 T.fail)) T.fail)) T.fail)) (T.br (!decide (e=(0:Int))) (T.leaf (AV.int IntKind.i64 e)) (T.br (decide ((16:Int)<(↑(List.map tyF.elem a3).length:Int))) (T.leaf (AV.int IntKind.i64 6)) s1)))) (T.br (askS [AV.ptr 0 (0:Nat),AV.int IntKind.i64 (0:Int)] [AV.ptr 0 (0:Nat),AV.int IntKind.i64 (↑(0:Nat):Int)] [Blk.var
 [AV.str a0,AV.str a1,AV.lst 5 (List.map tyC.elem a2) Tl.open_,AV.lst 2 (List.map tyF.elem a3) Tl.open_,AV.lst 5 (List.map tyM.elem a4) Tl.open_]] [Blk.var [AV.str a0,AV.str a1,AV.lst 5 (List.map tyC.elem a2) Tl.open_,AV.lst 2 (List.map tyF.elem a3) Tl.open_,AV.lst 5 (List.map tyM.elem a4) Tl.open_]]) (T.br (decide ((32:Int)<(↑(List.map tyM.elem a4).length:Int))) (T.leaf (AV.int
 IntKind.i64 6)) s0) T.fail))) (T.br (askS [AV.ptr 0 (0:Nat),AV.int IntKind.i64 (0:Int)] [AV.ptr 0 (0:Nat),AV.int IntKind.i64 (↑(0:Nat):Int)] [Blk.var [AV.str a0,AV.str a1,AV.lst 5 (List.map tyC.elem a2) Tl.open_,AV.lst 2 (List.map tyF.elem a3) Tl.open_,AV.lst 5 (List.map tyM.elem a4) Tl.open_]] [Blk.var [AV.str a0,AV.str a1,AV.lst 5 (List.map tyC.elem a2) Tl.open_,AV.lst 2
 (List.map tyF.elem a3) Tl.open_,AV.lst 5 (List.map tyM.elem a4) Tl.open_]]) (T.leaf (AV.int IntKind.i64 f)) T.fail)):=by kernel_rfl
theorem p13nx(a0 a1:ByteArray)(a2:List tyC.I)(a3:List tyF.I)(a4:List tyM.I)(e:Int):runV (X13 a2 e) (kTwo (kAt [1,1,1,1,1,0,1] (st13a 0) [.var [.str a0, .str a1,encL tyC a2,encL tyF a3,encL tyM a4]] .normal k13a [.var [.str a0, .str a1,encL tyC a2,encL tyF a3,encL tyM a4]]) (kNo [1,1,1,1,1,1,1,0,1])) Tryz.f31 (bodyOf Tryz.f31) [.agg [.str a0, .str a1,encL tyC a2,encL tyF a3,encL tyM a4]]=
 (T.br (askQ (clN (58:FuncId)).2 [AV.str a0]) (T.br (!nmA [AV.str a0]) (T.br true (T.leaf (AV.int IntKind.i64 7)) (T.br (askQ (fun a=>a= [encL tyC a2]) [AV.lst 5 (List.map tyC.elem a2) Tl.open_]) (T.br (!decide (e=(0:Int))) (T.leaf (AV.int IntKind.i64 e)) (T.br (decide ((16:Int)<(↑(List.map tyF.elem a3).length:Int))) (T.leaf (AV.int IntKind.i64 6)) (T.br (askS [AV.ptr 0 (0:Nat),
 AV.int IntKind.i64 (0:Int)] [AV.ptr 0 (0:Nat),AV.int IntKind.i64 (↑(0:Nat):Int)] [Blk.var [AV.str a0,AV.str a1,AV.lst 5 (List.map tyC.elem a2) Tl.open_,AV.lst 2 (List.map tyF.elem a3) Tl.open_,AV.lst 5 (List.map tyM.elem a4) Tl.open_]] [Blk.var [AV.str a0,AV.str a1,AV.lst 5 (List.map tyC.elem a2) Tl.open_,AV.lst 2 (List.map tyF.elem a3) Tl.open_,AV.lst 5 (List.map tyM.elem a4)
 Tl.open_]]) (T.br (decide ((32:Int)<(↑(List.map tyM.elem a4).length:Int))) (T.leaf (AV.int IntKind.i64 6)) T.fail) T.fail))) T.fail)) (T.br (askQ (clN (58:FuncId)).2 [AV.str a1]) (T.br (!nmA [AV.str a1]) (T.leaf (AV.int IntKind.i64 7)) (T.br (askQ (fun a=>a= [encL tyC a2]) [AV.lst 5 (List.map tyC.elem a2) Tl.open_]) (T.br (!decide (e=(0:Int))) (T.leaf (AV.int IntKind.i64 e)) (T.br
 (decide ((16:Int)<(↑(List.map tyF.elem a3).length:Int))) (T.leaf (AV.int IntKind.i64 6)) (T.br (askS [AV.ptr 0 (0:Nat),AV.int IntKind.i64 (0:Int)] [AV.ptr 0 (0:Nat),AV.int IntKind.i64 (↑(0:Nat):Int)] [Blk.var [AV.str a0,AV.str a1,AV.lst 5 (List.map tyC.elem a2) Tl.open_,AV.lst 2 (List.map tyF.elem a3) Tl.open_,AV.lst 5 (List.map tyM.elem a4) Tl.open_]] [Blk.var [AV.str a0,
 AV.str a1,AV.lst 5 (List.map tyC.elem a2) Tl.open_,AV.lst 2 (List.map tyF.elem a3) Tl.open_,AV.lst 5 (List.map tyM.elem a4) Tl.open_]]) (T.br (decide ((32:Int)<(↑(List.map tyM.elem a4).length:Int))) (T.leaf (AV.int IntKind.i64 6)) T.fail) T.fail))) T.fail)) T.fail)) T.fail):=by kernel_rfl
theorem p13r(a0 a1:ByteArray)(a2:List tyC.I)(a3:List tyF.I)(a4:List tyM.I)(e:Int)(f:Int):runV (X13 a2 e) (kTwo (kAt [1,1,1,1,1,0,1] (st13a 0) [.var [.str a0, .str a1,encL tyC a2,encL tyF a3,encL tyM a4]] .ret [(2, .int .i64 f)] [.var [.str a0, .str a1,encL tyC a2,encL tyF a3,encL tyM a4]]) (kNo [1,1,1,1,1,1,1,0,1])) Tryz.f31 (bodyOf Tryz.f31) [.agg [.str a0, .str a1,encL tyC a2,encL tyF a3,encL tyM a4]]=
 (T.br (askQ (clN (58:FuncId)).2 [AV.str a0]) (T.br (!nmA [AV.str a0]) (T.br true (T.leaf (AV.int IntKind.i64 7)) (T.br (askQ (fun a=>a= [encL tyC a2]) [AV.lst 5 (List.map tyC.elem a2) Tl.open_]) (T.br (!decide (e=(0:Int))) (T.leaf (AV.int IntKind.i64 e)) (T.br (decide ((16:Int)<(↑(List.map tyF.elem a3).length:Int))) (T.leaf (AV.int IntKind.i64 6)) (T.br (askS [AV.ptr 0 (0:Nat),
 AV.int IntKind.i64 (0:Int)] [AV.ptr 0 (0:Nat),AV.int IntKind.i64 (↑(0:Nat):Int)] [Blk.var [AV.str a0,AV.str a1,AV.lst 5 (List.map tyC.elem a2) Tl.open_,AV.lst 2 (List.map tyF.elem a3) Tl.open_,AV.lst 5 (List.map tyM.elem a4) Tl.open_]] [Blk.var [AV.str a0,AV.str a1,AV.lst 5 (List.map tyC.elem a2) Tl.open_,AV.lst 2 (List.map tyF.elem a3) Tl.open_,AV.lst 5 (List.map tyM.elem a4)
 Tl.open_]]) (T.leaf (AV.int IntKind.i64 f)) T.fail))) T.fail)) (T.br (askQ (clN (58:FuncId)).2 [AV.str a1]) (T.br (!nmA [AV.str a1]) (T.leaf (AV.int IntKind.i64 7)) (T.br (askQ (fun a=>a= [encL tyC a2]) [AV.lst 5 (List.map tyC.elem a2) Tl.open_]) (T.br (!decide (e=(0:Int))) (T.leaf (AV.int IntKind.i64 e)) (T.br (decide ((16:Int)<(↑(List.map tyF.elem a3).length:Int))) (T.leaf (AV.int
 IntKind.i64 6)) (T.br (askS [AV.ptr 0 (0:Nat),AV.int IntKind.i64 (0:Int)] [AV.ptr 0 (0:Nat),AV.int IntKind.i64 (↑(0:Nat):Int)] [Blk.var [AV.str a0,AV.str a1,AV.lst 5 (List.map tyC.elem a2) Tl.open_,AV.lst 2 (List.map tyF.elem a3) Tl.open_,AV.lst 5 (List.map tyM.elem a4) Tl.open_]] [Blk.var [AV.str a0,AV.str a1,AV.lst 5 (List.map tyC.elem a2) Tl.open_,AV.lst 2 (List.map tyF.elem
 a3) Tl.open_,AV.lst 5 (List.map tyM.elem a4) Tl.open_]]) (T.leaf (AV.int IntKind.i64 f)) T.fail))) T.fail)) T.fail)) T.fail):=by kernel_rfl
theorem p13x(a0 a1:ByteArray)(a2:List tyC.I)(a3:List tyF.I)(a4:List tyM.I)(e:Int):runV (X13 a2 e) (kTwo (kNo [1,1,1,1,1,0,1]) (kNo [1,1,1,1,1,1,1,0,1])) Tryz.f31 (bodyOf Tryz.f31) [.agg [.str a0, .str a1,encL tyC a2,encL tyF a3,encL tyM a4]]=
 (T.br (askQ (clN (58:FuncId)).2 [AV.str a0]) (T.br (!nmA [AV.str a0]) (T.br true (T.leaf (AV.int IntKind.i64 7)) (T.br (askQ (fun a=>a= [encL tyC a2]) [AV.lst 5 (List.map tyC.elem a2) Tl.open_]) (T.br (!decide (e=(0:Int))) (T.leaf (AV.int IntKind.i64 e)) (T.br (decide ((16:Int)<(↑(List.map tyF.elem a3).length:Int))) (T.leaf (AV.int IntKind.i64 6)) T.fail)) T.fail)) (T.br (askQ (clN
 (39:FuncId)).2 [AV.str a1]) (T.br (!nmA [AV.str a1]) (T.leaf (AV.int IntKind.i64 7)) (T.br (askQ (fun a=>a= [encL tyC a2]) [AV.lst 5 (List.map tyC.elem a2) Tl.open_]) (T.br (!decide (e=(0:Int))) (T.leaf (AV.int IntKind.i64 e)) (T.br (decide ((16:Int)<(↑(List.map tyF.elem a3).length:Int))) (T.leaf (AV.int IntKind.i64 6)) T.fail)) T.fail)) T.fail)) T.fail):=by kernel_rfl
theorem g13:Ground E13:=⟨fun t h=>by simpa [E13,E0]using h,lightC_ok rfl (fun c hc args ha h=>by
 obtain rfl:=List.mem_singleton.1 hc
 exact Con.env (E:=E0) (E':=E13) rfl rfl (cl15_ok args ha h)) (fun c hc args=>by
 obtain rfl:=List.mem_singleton.1 hc
 rfl),bok_none (fun _=>rfl),by kernel_rfl⟩
theorem calls13(a2:List tyC.I)(e:Int)(he:e=poolE a2)(l2:a2.length<1000000000000000)(hok: ∀x,x∈a2→tyC.okay x):CallOK (X13 a2 e).E (X13 a2 e).calls:=callsBy_ok rfl fun c hc args ha h=>Con.env (E:=E0) (E':=E13) rfl rfl (by
 rcases List.mem_cons.1 hc with rfl|hc
 ·exact clN39 args ha h
 rcases List.mem_cons.1 hc with rfl|hc
 ·exact clD41 args ha h
 rcases List.mem_cons.1 hc with rfl|hc
 ·exact cl15_ok args ha h
 rcases List.mem_cons.1 hc with rfl|hc
 ·exact cl42_ok args ha h
 ·obtain rfl:=List.mem_singleton.1 hc
  obtain rfl:args= [encL tyC a2]:=ha;show Con E0 32 [encL tyC a2] h (.int .i64 e) h
  rw[he];exact con40 a2 l2 hok h)
set_option maxRecDepth 100000 in
theorem con13r(a0 a1:ByteArray)(a2:List tyC.I)(a3:List tyF.I)(a4:List tyM.I)(hx:tyK.okay (a0,a1,a2,a3,a4))(h:H):Con E0 31 [tyK.elem (a0,a1,a2,a3,a4)] h (.int .i64 (rightE a0 a1 a2 a3 a4)) h:=by
 have hn:noRefs [tyK.elem (a0,a1,a2,a3,a4)]=true:=noRefs1 tyK (a0,a1,a2,a3,a4);have l2:a2.length<1000000000000000:=Nat.lt_of_le_of_lt hx.2.2.1.1 (by decide);have l3:a3.length<1000000000000000:=Nat.lt_of_le_of_lt hx.2.2.2.1.1 (by decide);have l4:a4.length<1000000000000000:=Nat.lt_of_le_of_lt hx.2.2.2.2.1 (by decide)
 have e3:(a3.map tyF.elem).length=a3.length:=by simp
 have e4:(a4.map tyM.elem).length=a4.length:=by simp
 have fF:fitsC Tryz.prog 86 (tyF.elem tyF.zero)=true:=by kernel_rfl
 obtain⟨e,he⟩: ∃e,e=poolE a2:=⟨_,rfl⟩
 have hcall:=calls13 a2 e he l2 hx.2.2.1.2
 have fin: ∀{K:Known},KOK E13 77 [] (bodyOf Tryz.f31) K→(runV (X13 a2 e) K Tryz.f31 (bodyOf Tryz.f31) [tyK.elem (a0,a1,a2,a3,a4)]).run= .ok (.int .i64 (rightE a0 a1 a2 a3 a4))→Con E0 31 [tyK.elem (a0,a1,a2,a3,a4)] h (.int .i64 (rightE a0 a1 a2 a3 a4)) h:=fun hk hr=>
  Con.env (E:=E13) rfl rfl (Con.pureV (X:=X13 a2 e) g13 noG0 hcall (fn:=Tryz.f31) Tryz.func31 (c:=bodyOf Tryz.f31) rfl rfl (args:= [tyK.elem (a0,a1,a2,a3,a4)]) hk hn hr (Le.refl _) rfl h)
 have hR:rightE a0 a1 a2 a3 a4=(match nmA [.str a0]with
  |false=>7
  |true=>match nmA [.str a1]with
   |false=>7
   |true=>if e=0 then(if fieldsE a3=0 then methodsE a2 a4 else fieldsE a3)else e):=by rw[he];rfl
 have k0:(clN 58).ok [.str a0]:=⟨a0,rfl,hx.1⟩;have k1:(clN 58).ok [.str a1]:=⟨a1,rfl,hx.2.1⟩
 have hS:(askS [AV.ptr (0:Nat) (0:Nat),AV.int IntKind.i64 (0:Int)]
 [AV.ptr (0:Nat) (0:Nat),AV.int IntKind.i64 (↑(0:Nat):Int)]
 [Blk.var
   [AV.str a0,AV.str a1,AV.lst (5:Nat) (List.map tyC.elem a2) Tl.open_,
    AV.lst (2:Nat) (List.map tyF.elem a3) Tl.open_,AV.lst (5:Nat) (List.map tyM.elem a4) Tl.open_]]
 [Blk.var
   [AV.str a0,AV.str a1,AV.lst (5:Nat) (List.map tyC.elem a2) Tl.open_,
    AV.lst (2:Nat) (List.map tyF.elem a3) Tl.open_,AV.lst (5:Nat) (List.map tyM.elem a4) Tl.open_]])=true:=askS_self _ _
 have mF: ∀j,j<a3.length→tyF.okay (a3.getD j tyF.zero):=fun j hj=>hx.2.2.2.1.2 _ (getD_mem hj)
 have hgoF: ∀j,j<a3.length→(fieldE a3 j=0→Tri E13 77 [] (sub (bodyOf Tryz.f31) [1,1,1,1,1,0,1,0,0]) (frm (st13a j)) [.var [.str a0, .str a1,encL tyC a2,encL tyF a3,encL tyM a4]] .normal (frm (st13a (j+1))) [.var [.str a0, .str a1,encL tyC a2,encL tyF a3,encL tyM a4]])∧
   (fieldE a3 j≠0→Tri E13 77 [] (sub (bodyOf Tryz.f31) [1,1,1,1,1,0,1,0,0]) (frm (st13a j)) [.var [.str a0, .str a1,encL tyC a2,encL tyF a3,encL tyM a4]] .ret (frm [(2, .int .i64 (fieldE a3 j))]) [.var [.str a0, .str a1,encL tyC a2,encL tyF a3,encL tyM a4]]):=by
  intro j hj
  have ht:=p13a a0 a1 a2 a3 a4 e j
  have q1:askQ (clN 58).2 [AV.str ((tyF.elem (a3.getD j tyF.zero)).cells.getD 0 undef).toS]=true:=by
   have:=mF j hj;obtain⟨⟨x0,x1⟩,hx⟩: ∃x:tyF.I,a3.getD j tyF.zero=x:=⟨_,rfl⟩
   rw[hx]at this ⊢
   exact ask_true ⟨x0,rfl,this.1⟩
  have q2:askQ (clD 59).2 [AV.str ((tyF.elem (a3.getD j tyF.zero)).cells.getD 1 undef).toS]=true:=by
   have:=mF j hj;obtain⟨⟨x0,x1⟩,hx⟩: ∃x:tyF.I,a3.getD j tyF.zero=x:=⟨_,rfl⟩
   rw[hx]at this ⊢
   exact ask_true ⟨x1,rfl,this.2⟩
  obtain⟨s,hs⟩: ∃s,s=((tyF.elem (a3.getD j tyF.zero)).cells.getD 0 undef).toS:=⟨_,rfl⟩;obtain⟨d,hd⟩: ∃d,d=((tyF.elem (a3.getD j tyF.zero)).cells.getD 1 undef).toS:=⟨_,rfl⟩;have k15:okF15 [tyK.elem (a0,a1,a2,a3,a4), .str s]:=⟨(a0,a1,a2,a3,a4),s,rfl,l3⟩;have eF:fieldQ [tyK.elem (a0,a1,a2,a3,a4), .str s]=placeOf (firstI (fun k=>nmF (a3.getD k tyF.zero)=s) a3.length):=pick_eq encS_inj ((a0,a1,a2,a3,a4),s)
  have h8:decide (fieldQ [tyK.elem (a0,a1,a2,a3,a4), .str s]<(j:Int))=ask (∃k,k<j∧nmF (a3.getD k tyF.zero)=nmF (a3.getD j tyF.zero)):=by
   rw[eF];exact ask_iff (by rw[decide_eq_true_iff];have:=first_lt (p:=fun k=>nmF (a3.getD k tyF.zero)=s) hj hs.symm;rw[this,hs];rfl)
  have hE:fieldE a3 j=(match nmA [.str s]with
   |false=>7
   |true=>match dsA [.str d]with
    |false=>10
    |true=>match ask (∃k,k<j∧nmF (a3.getD k tyF.zero)=nmF (a3.getD j tyF.zero))with
     |true=>8
     |false=>0):=by rw[hs,hd];rfl
  rw[idx_ok hj fF,lt_ok hj,Int.toNat_natCast,getD_elem hj,wrap_next (by omega),q1,q2,←hs,←hd]at ht
  have hl: ∀{t f:T (X×List AV×H)} {x:R (X×List AV×H)},t.run=x→(T.br (askQ okF15 [tyK.elem (a0,a1,a2,a3,a4), .str s]) (T.br (askL E13 60 [tyK.elem (a0,a1,a2,a3,a4), .str s] (.int .i64 (fieldQ [tyK.elem (a0,a1,a2,a3,a4), .str s]))) t f) f).run=x:=fun ht=>
   bA (bL (cs:=cs13) (c:=cl15) rfl rfl k15 rfl rfl ht) k15
  rw[hE]
  cases c1:nmA [.str s]with
  |false=>
   refine⟨nofun,fun _=>?_⟩;rw[c1]at ht
   exact Tri.seen (X:=X13 a2 e) g13 hcall KOK.none rfl (congrArg T.run ht) (by
    intro q hq;obtain rfl:=List.mem_singleton.1 hq
    rfl)
  |true=>cases c2:dsA [.str d]with
   |false=>
    refine⟨nofun,fun _=>?_⟩;rw[c1,c2]at ht
    exact Tri.seen (X:=X13 a2 e) g13 hcall KOK.none rfl (congrArg T.run ht) (by
     intro q hq;obtain rfl:=List.mem_singleton.1 hq
     rfl)
   |true=>
    rw[c1,c2]at ht
    have hr:=(congrArg T.run ht).trans (bT rfl (bT rfl (bT rfl (bF rfl (bT rfl (bT rfl (bF rfl (bT rfl (hl rfl)))))))))
    cases c3:ask (∃k,k<j∧nmF (a3.getD k tyF.zero)=nmF (a3.getD j tyF.zero))with
    |true=>
     refine⟨nofun,fun _=>?_⟩
     exact Tri.seen (X:=X13 a2 e) g13 hcall KOK.none rfl (hr.trans (bT (h8.trans c3) rfl)) (by
      intro q hq;obtain rfl:=List.mem_singleton.1 hq
      rfl)
    |false=>
     refine⟨fun _=>?_,fun hh=>absurd rfl hh⟩
     exact Tri.seen (X:=X13 a2 e) g13 hcall KOK.none rfl (hr.trans (bF (h8.trans c3) rfl)) (by
      intro q hq;simp only[st13a,List.mem_cons,List.not_mem_nil,or_false]at hq
      rcases hq with rfl|rfl<;>rfl)
 have hTa:=find_rounds (E:=E13) (N:=77) (h0:= []) (c:=sub (bodyOf Tryz.f31) [1,1,1,1,1,0,1,0,0]) (p:=fun j=>fieldE a3 j≠0) (n:=a3.length) (st:=st13a) (hm:= [.var [.str a0, .str a1,encL tyC a2,encL tyF a3,encL tyM a4]]) (rt:=fun j=> [(2, .int .i64 (fieldE a3 j))]) (id:=0)
  (fun j hj hp=>(hgoF j hj).1 (Classical.not_not.1 hp)) (fun j hj hp=>(hgoF j hj).2 hp) (by
   have ht:=p13a a0 a1 a2 a3 a4 e a3.length
   rw[lt_no]at ht
   exact Tri.seen (X:=X13 a2 e) g13 hcall KOK.none rfl (congrArg T.run ht) (by
    intro q hq;simp only[st13a,List.mem_cons,List.not_mem_nil,or_false]at hq
    rcases hq with rfl|rfl<;>rfl))
 have k42: ∀j:Nat,j<a4.length→askQ okM42 [tyK.elem (a0,a1,a2,a3,a4), .int .i64 (j:Int)]=true:=fun j hj=>ask_true ⟨(a0,a1,a2,a3,a4),j,rfl,hx,hj⟩
 have e42: ∀j:Nat,methQ [tyK.elem (a0,a1,a2,a3,a4), .int .i64 (j:Int)]=methodE a2 a4 j:=fun j=>pick_eq encN_inj ((a0,a1,a2,a3,a4),(j:Int))
 have hTb:=find_rounds (E:=E13) (N:=77) (h0:= []) (c:=sub (bodyOf Tryz.f31) [1,1,1,1,1,1,1,0,1,0,0]) (p:=fun j=>methodE a2 a4 j≠0) (n:=a4.length) (st:=st13b) (hm:= [.var [.str a0, .str a1,encL tyC a2,encL tyF a3,encL tyM a4]]) (rt:=fun j=> [(2, .int .i64 (methodE a2 a4 j))]) (id:=2)
  (fun j hj hp=>by
   have hp:methodE a2 a4 j=0:=Classical.not_not.1 hp
   have ht:=p13b a0 a1 a2 a3 a4 e j
   have hr:=(congrArg T.run ht).trans (bT (lt_ok hj) (bT (k42 j hj) (bF (congrArg not (decide_eq_true ((e42 j).trans hp))) rfl)))
   rw[wrap_next (by omega)]at hr
   exact Tri.seen (X:=X13 a2 e) g13 hcall KOK.none rfl hr (by
    intro q hq;simp only[st13b,List.mem_cons,List.not_mem_nil,or_false]at hq
    rcases hq with rfl|rfl<;>rfl))
  (fun j hj hp=>by
   have ht:=p13b a0 a1 a2 a3 a4 e j
   have hr:=(congrArg T.run ht).trans (bT (lt_ok hj) (bT (k42 j hj) (bT (congrArg not (decide_eq_false (fun h=>hp ((e42 j).symm.trans h)))) rfl)))
   exact Tri.seen (X:=X13 a2 e) g13 hcall KOK.none rfl hr (by
    intro q hq;obtain rfl:=List.mem_singleton.1 hq
    exact congrArg (AV.int IntKind.i64) (e42 j)))
  (by
   have ht:=p13b a0 a1 a2 a3 a4 e a4.length
   rw[lt_no]at ht
   exact Tri.seen (X:=X13 a2 e) g13 hcall KOK.none rfl (congrArg T.run ht) (by
    intro q hq;simp only[st13b,List.mem_cons,List.not_mem_nil,or_false]at hq
    rcases hq with rfl|rfl<;>rfl))
 have pre: ∀{t u:T AV},t.run= .ok (.int .i64 (if fieldsE a3=0 then methodsE a2 a4 else fieldsE a3))→(T.br (askQ (clN 58).2 [.str a0]) (T.br (!nmA [.str a0]) (T.br true (.leaf (.int .i64 7)) u) (T.br (askQ (clN 58).2 [.str a1]) (T.br (!nmA [.str a1]) (.leaf (.int .i64 7)) (T.br (askQ (fun a=>a= [encL tyC a2]) [.lst 5 (a2.map tyC.elem) .open_]) (T.br (!decide (e=0)) (.leaf (.int .i64 e)) t) .fail)) .fail)) .fail).run= .ok (.int .i64 (rightE a0 a1 a2 a3 a4)):=by
  intro t u ht;rw[hR]
  refine bA ?_ k0
  cases nmA [.str a0]with
  |false=>exact bT rfl (bT rfl rfl)
  |true=>
   refine bF rfl (bA ?_ k1)
   cases nmA [.str a1]with
   |false=>exact bT rfl rfl
   |true=>
    refine bF rfl (bA ?_ rfl)
    by_cases h0:e=0
    ·refine bF (by rw[decide_eq_true h0];rfl) ?_
     show _=R.ok (AV.int .i64 (if e=0 then _ else e));rw[if_pos h0];exact ht
    ·refine bT (by rw[decide_eq_false h0];rfl) ?_
     show _=R.ok (AV.int .i64 (if e=0 then _ else e));rw[if_neg h0];rfl
 by_cases h16:16<a3.length
 ·have hf:fieldsE a3=6:=if_pos h16
  refine fin (KOK.two (kNo_ok (p:= [1,1,1,1,1,0,1])) (kNo_ok (p:= [1,1,1,1,1,1,1,0,1]))) ((congrArg T.run (p13x a0 a1 a2 a3 a4 e)).trans (pre ?_));rw[hf];exact bT (decide_eq_true (by rw[e3];omega)) rfl
 have b16:decide ((16:Int)<(((a3.map tyF.elem).length:Nat):Int))=false:=decide_eq_false (by rw[e3];omega)
 have hfE:fieldsE a3=match firstI (fun j=>fieldE a3 j≠0) a3.length with
   |some i=>fieldE a3 i
   |none=>0:=if_neg h16
 cases hfa:firstI (fun j=>fieldE a3 j≠0) a3.length with
 |some i=>
  rw[hfa]at hTa hfE;obtain⟨_,hi,_⟩:=firstI_some hfa;have hfE:fieldsE a3=fieldE a3 i:=hfE;have hka:KOK E13 77 [] (bodyOf Tryz.f31) (kAt [1,1,1,1,1,0,1] (st13a 0) [.var [.str a0, .str a1,encL tyC a2,encL tyF a3,encL tyM a4]] .ret [(2, .int .i64 (fieldE a3 i))] [.var [.str a0, .str a1,encL tyC a2,encL tyF a3,encL tyM a4]]):=kAt_ok (Tri.block (id:=0) (Tri.loop hTa));refine fin (KOK.two hka (kNo_ok (p:= [1,1,1,1,1,1,1,0,1]))) ((congrArg T.run (p13r a0 a1 a2 a3 a4 e (fieldE a3 i))).trans (pre ?_));rw[hfE,if_neg hi];exact bF b16 (bT hS rfl)
 |none=>
  rw[hfa]at hTa hfE;have hfE:fieldsE a3=0:=hfE
  have hka:KOK E13 77 [] (bodyOf Tryz.f31) (kAt [1,1,1,1,1,0,1] (st13a 0) [.var [.str a0, .str a1,encL tyC a2,encL tyF a3,encL tyM a4]] .normal k13a [.var [.str a0, .str a1,encL tyC a2,encL tyF a3,encL tyM a4]]):=kAt_ok (.wk .refl (Tri.block (id:=0) (Tri.loop hTa)) (Wk.fewer fun q hq=>by
   obtain rfl:=List.mem_singleton.1 hq
   rfl))
  by_cases h32:32<a4.length
  ·have hm:methodsE a2 a4=6:=if_pos h32
   refine fin (KOK.two hka (kNo_ok (p:= [1,1,1,1,1,1,1,0,1]))) ((congrArg T.run (p13nx a0 a1 a2 a3 a4 e)).trans (pre ?_));rw[hfE,if_pos rfl,hm];exact bF b16 (bT hS (bT (decide_eq_true (by rw[e4];omega)) rfl))
  have b32:decide ((32:Int)<(((a4.map tyM.elem).length:Nat):Int))=false:=decide_eq_false (by rw[e4];omega)
  have hmE:methodsE a2 a4=match firstI (fun j=>methodE a2 a4 j≠0) a4.length with
    |some i=>methodE a2 a4 i
    |none=>0:=if_neg h32
  cases hfb:firstI (fun j=>methodE a2 a4 j≠0) a4.length with
  |some i=>
   rw[hfb]at hTb hmE;have hkb:KOK E13 77 [] (bodyOf Tryz.f31) (kAt [1,1,1,1,1,1,1,0,1] (st13b 0) [.var [.str a0, .str a1,encL tyC a2,encL tyF a3,encL tyM a4]] .ret [(2, .int .i64 (methodE a2 a4 i))] [.var [.str a0, .str a1,encL tyC a2,encL tyF a3,encL tyM a4]]):=kAt_ok (Tri.block (id:=2) (Tri.loop hTb));refine fin (KOK.two hka hkb) ((congrArg T.run (p13nr a0 a1 a2 a3 a4 e (methodE a2 a4 i))).trans (pre ?_));rw[hfE,if_pos rfl,hmE];exact bF b16 (bT hS (bF b32 (bT hS rfl)))
  |none=>
   rw[hfb]at hTb hmE;have hkb:KOK E13 77 [] (bodyOf Tryz.f31) (kAt [1,1,1,1,1,1,1,0,1] (st13b 0) [.var [.str a0, .str a1,encL tyC a2,encL tyF a3,encL tyM a4]] .normal [] [.var [.str a0, .str a1,encL tyC a2,encL tyF a3,encL tyM a4]]):=kAt_ok (.wk .refl (Tri.block (id:=2) (Tri.loop hTb)) (Wk.fewer fun q hq=>by cases hq));refine fin (KOK.two hka hkb) ((congrArg T.run (p13nn a0 a1 a2 a3 a4 e)).trans (pre ?_));rw[hfE,if_pos rfl,hmE];exact bF b16 (bT hS (bF b32 (bT hS rfl)))
end Go.Proofs.YtaooangghieljaaGreatDoor.AM
