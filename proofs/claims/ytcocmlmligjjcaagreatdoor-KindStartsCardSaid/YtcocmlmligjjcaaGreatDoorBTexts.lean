-- SQUEEZED
import Derived.Test.YtcocmlmligjjcaaGreatDoorBStA
namespace Go.Proofs.YtcocmlmligjjcaaGreatDoor.AM
open Go Go.Proofs Go.RowKit
set_option linter.unusedVariables false
set_option linter.unusedSimpArgs false
theorem cmp_ba(x y:ByteArray):(!decide (x=y))=!ask (x=y):=by rw[ask_dec]
theorem cmp_tyS(x y:tyS.I):(!decide (((tyS.elem x).cells.getD 0 undef).toS=((tyS.elem y).cells.getD 0 undef).toS))=!ask (x=y):=cmp_ba x y
def st111(L M:List tyS.I)(j:Nat):List (Nat×AV):= [(0,encL tyS L),(1,encL tyS M),(5, .int .i64 j)]
theorem p111(l m:List AV)(i:Int):obsK (XN 111 [10,14,25]) (fun _=>none) 26 (sub (bodyOf Tryz.f111) [1,1,0,1,0,0]) [1,1,0,1,0,0] (frm [(0, .lst 1 l .open_),(1, .lst 1 m .open_),(5, .int .i64 i)]) [] [0,1,4,5]=
 (T.br (decide (i<(↑l.length:Int)))
  (T.br (decide ((0:Int)≤i)&&decide (i<(↑l.length:Int))&&fitsC Tryz.prog (9:Nat) (l.getD i.toNat undef))
   (T.br (decide ((0:Int)≤i)&&decide (i<(↑m.length:Int))&&
 fitsC Tryz.prog (9:Nat) (m.getD i.toNat undef))
       (T.br (!decide
  (((l.getD i.toNat undef).cells.getD (0:Nat) undef).toS=((m.getD i.toNat undef).cells.getD (0:Nat) undef).toS))
     (T.leaf ((X.ret,[AV.lst 1 l Tl.open_,AV.lst 1 m Tl.open_,AV.bool false,AV.int IntKind.i64 i],[])))
     (T.leaf ((X.normal,
 [AV.lst 1 l Tl.open_,AV.lst 1 m Tl.open_,AV.fsl 0 [],AV.int IntKind.i64 (IntKind.i64.wrap (i+1))],[]))))
    T.fail)
   T.fail)
  (T.leaf ((X.exit 0,[AV.lst 1 l Tl.open_,AV.lst 1 m Tl.open_,AV.fsl 0 [],AV.int IntKind.i64 i],[])))):=by kernel_rfl
theorem p111r(L M:List tyS.I):runV (XN 111 [10,14,25]) (kAt [1,1,0,1] (st111 L M 0) [] .ret [(4, .bool false)] []) Tryz.f111 (bodyOf Tryz.f111) [encL tyS L,encL tyS M]=
 (T.br (!decide ((↑(List.map tyS.elem L).length:Int)=(↑(List.map tyS.elem M).length:Int)))
  (T.leaf (AV.bool false))
  (T.br (askS
 [AV.lst (1:Nat) (List.map tyS.elem L) Tl.open_,AV.lst (1:Nat) (List.map tyS.elem M) Tl.open_,
  AV.int IntKind.i64 (0:Int)]
 [AV.lst (1:Nat) (List.map tyS.elem L) Tl.open_,AV.lst (1:Nat) (List.map tyS.elem M) Tl.open_,
  AV.int IntKind.i64 (↑(0:Nat):Int)]
 [] [])
     (T.leaf (AV.bool false))
     T.fail)):=by kernel_rfl
theorem p111n(L M:List tyS.I):runV (XN 111 [10,14,25]) (kAt [1,1,0,1] (st111 L M 0) [] .normal (st111 L M L.length) []) Tryz.f111 (bodyOf Tryz.f111) [encL tyS L,encL tyS M]=
 (T.br (!decide ((↑(List.map tyS.elem L).length:Int)=(↑(List.map tyS.elem M).length:Int)))
  (T.leaf (AV.bool false))
  (T.br (askS
 [AV.lst (1:Nat) (List.map tyS.elem L) Tl.open_,AV.lst (1:Nat) (List.map tyS.elem M) Tl.open_,
  AV.int IntKind.i64 (0:Int)]
 [AV.lst (1:Nat) (List.map tyS.elem L) Tl.open_,AV.lst (1:Nat) (List.map tyS.elem M) Tl.open_,
  AV.int IntKind.i64 (↑(0:Nat):Int)]
 [] [])
     (T.leaf (AV.bool true))
     T.fail)):=by kernel_rfl
theorem p111x(L M:List tyS.I):runV (XN 111 [10,14,25]) (kNo [1,1,0,1]) Tryz.f111 (bodyOf Tryz.f111) [encL tyS L,encL tyS M]=
 (T.br (!decide ((↑(List.map tyS.elem L).length:Int)=(↑(List.map tyS.elem M).length:Int)))
  (T.leaf (AV.bool false))
  T.fail):=by kernel_rfl
theorem go111(L M:List tyS.I)(hlen:M.length=L.length)(hl:L.length<1000000000000000)(j:Nat)(hj:j<L.length):
  (L.getD j tyS.zero=M.getD j tyS.zero→Tri E0 26 [] (sub (bodyOf Tryz.f111) [1,1,0,1,0,0]) (frm (st111 L M j)) [] .normal (frm (st111 L M (j+1))) [])∧
  (L.getD j tyS.zero≠M.getD j tyS.zero→Tri E0 26 [] (sub (bodyOf Tryz.f111) [1,1,0,1,0,0]) (frm (st111 L M j)) [] .ret (frm [(4, .bool false)]) []):=by
 have ht:=p111 (L.map tyS.elem) (M.map tyS.elem) j
 have hjm:j<M.length:=by omega
 have f0:fitsC Tryz.prog 9 (tyS.elem tyS.zero)=true:=by kernel_rfl
 rw[idx_ok hj f0,idx_ok hjm f0,lt_ok hj,Int.toNat_natCast,getD_elem hj,getD_elem hjm,cmp_tyS,wrap_next (by omega)]at ht;refine⟨fun he=>?_,fun he=>?_⟩
 ·rw[ask_true he]at ht
  exact Tri.seen (X:=XN 111 [10,14,25]) g0 (noCalls fun _ _ _=>rfl) KOK.none rfl (congrArg T.run ht) (by
   intro q hq;simp only[st111,List.mem_cons,List.not_mem_nil,or_false]at hq
   rcases hq with rfl|rfl|rfl<;>rfl)
 ·rw[ask_false he]at ht
  exact Tri.seen (X:=XN 111 [10,14,25]) g0 (noCalls fun _ _ _=>rfl) KOK.none rfl (congrArg T.run ht) (by
   intro q hq;simp only[List.mem_cons,List.not_mem_nil,or_false]at hq
   rcases hq with rfl;rfl)
theorem out111(L M:List tyS.I):Tri E0 26 [] (sub (bodyOf Tryz.f111) [1,1,0,1,0,0]) (frm (st111 L M L.length)) [] (.exit 0) (frm (st111 L M L.length)) []:=by
 have ht:=p111 (L.map tyS.elem) (M.map tyS.elem) L.length
 rw[lt_no]at ht
 exact Tri.seen (X:=XN 111 [10,14,25]) g0 (noCalls fun _ _ _=>rfl) KOK.none rfl (congrArg T.run ht) (by
  intro q hq;simp only[st111,List.mem_cons,List.not_mem_nil,or_false]at hq
  rcases hq with rfl|rfl|rfl<;>rfl)
theorem con111(L M:List tyS.I)(hl:L.length<1000000000000000)(h:H):Con E0 111 [encL tyS L,encL tyS M] h (.bool (ask (L=M))) h:=by
 have hn:noRefs [encL tyS L,encL tyS M]=true:=by simp only[noRefs,encL_noRef,Bool.and_true]
 have fin: ∀{K:Known} {v:AV},KOK E0 26 [] (bodyOf Tryz.f111) K→(runV (XN 111 [10,14,25]) K Tryz.f111 (bodyOf Tryz.f111) [encL tyS L,encL tyS M]).run= .ok v→v= .bool (ask (L=M))→Con E0 111 [encL tyS L,encL tyS M] h (.bool (ask (L=M))) h:=fun hk hr hv=>
  Con.pureV (X:=XN 111 [10,14,25]) g0 noG0 (noCalls fun _ _ _=>rfl) (fn:=Tryz.f111) Tryz.func111 (c:=bodyOf Tryz.f111) rfl rfl (args:= [encL tyS L,encL tyS M]) hk hn hr (hv▸Le.refl _) rfl h
 by_cases hm:L.length=M.length
 ·have hd:(!decide ((((L.map tyS.elem).length:Nat):Int)=(((M.map tyS.elem).length:Nat):Int)))=false:=by simp;omega
  obtain⟨r1,r2⟩:=eq_rounds (L:=L) (M:=M) (z:=tyS.zero) (st:=st111 L M) (rt:= [(4, .bool false)]) hm.symm (fun j hj=>(go111 L M hm.symm hl j hj).1) (fun j hj=>(go111 L M hm.symm hl j hj).2) (out111 L M)
  by_cases he:L=M
  ·have hk:KOK E0 26 [] (bodyOf Tryz.f111) (kAt [1,1,0,1] (st111 L M 0) [] .normal (st111 L M L.length) []):=kAt_ok (Tri.block (id:=0) (Tri.loop (r1 he)))
   exact fin hk ((congrArg T.run (p111n L M)).trans (bF hd (bS rfl))) (by rw[ask_true he])
  ·have hk:KOK E0 26 [] (bodyOf Tryz.f111) (kAt [1,1,0,1] (st111 L M 0) [] .ret [(4, .bool false)] []):=kAt_ok (Tri.block (id:=0) (Tri.loop (r2 he)))
   exact fin hk ((congrArg T.run (p111r L M)).trans (bF hd (bS rfl))) (by rw[ask_false he])
 ·have hd:(!decide ((((L.map tyS.elem).length:Nat):Int)=(((M.map tyS.elem).length:Nat):Int)))=true:=by simp;omega
  exact fin (kNo_ok (p:= [1,1,0,1])) ((congrArg T.run (p111x L M)).trans (bT hd rfl)) (by rw[ask_false (fun h=>hm (congrArg _ h))])
end Go.Proofs.YtcocmlmligjjcaaGreatDoor.AM
