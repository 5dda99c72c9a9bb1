-- SQUEEZED
/- Whether a method can be, by the document; numbers, texts and constants as bytes. -/
import Derived.Test.YtaooangghieljaaGreatDoorBPlaces
namespace Go.Proofs.YtaooangghieljaaGreatDoor.AM
open Go Go.Proofs Go.RowKit
open Go.Proofs.YtaooangghieljaaGreatDoor
set_option linter.unusedVariables false
set_option linter.unusedSimpArgs false
def st42(k:Nat):List (Nat×AV):= [(5, .ptr 1 0),(11, .int .i64 k)]
noncomputable def X42(a0 a1:ByteArray)(a2:List tyC.I)(a3:List tyF.I)(a4:List tyM.I)(m0 m1:ByteArray)(m2:Int)(m3:List tyI.I)(m4:List tyH.I)(r p e w:Int):SX:=XC 61 [20,29,35,39,46,58,64,73] [clN 58,clS 83,⟨84,fun a=>a= [.agg [.str a0, .str a1,encL tyC a2,encL tyF a3,encL tyM a4], .str m0],fun _=> .int .i64 r⟩,⟨63,fun a=>a= [encL tyI m3,encL tyC a2, .int .i64 m2],fun _=> .tup [.int .i64 p, .int .i64 e]⟩,⟨85,fun a=>a= [encL tyH m4, .int .i64 (((m3.map tyI.elem).length:Nat):Int)],fun _=> .int .i64 w⟩]
theorem p42i(a0 a1:ByteArray)(a2:List tyC.I)(a3:List tyF.I)(a4:List tyM.I)(m0 m1:ByteArray)(m2:Int)(m3:List tyI.I)(m4:List tyH.I)(k:Int):obsK (XN 61 [20,29,35,39,46,58,64,73]) (fun _=>none) 80 (sub (bodyOf Tryz.f61) [1,1,1,1,1,1,1,1,1,0,1,0,0]) [1,1,1,1,1,1,1,1,1,0,1,0,0] (frm [(5, .ptr 1 0),(11, .int .i64 k)]) [.var [.str a0, .str a1,encL tyC a2,encL tyF a3,encL tyM a4], .var [.str m0, .str m1, .int .i64 m2,encL tyI m3,encL tyH m4]] [4,5,11]=
 (T.br (decide (k<(↑(List.map tyI.elem m3).length:Int))) (T.br (decide ((0:Int)≤k)&&decide (k<(↑(List.map tyI.elem m3).length:Int))&&fitsC Tryz.prog (61:Nat) ((List.map tyI.elem m3).getD k.toNat undef)) (T.br (decide ((((List.map tyI.elem m3).getD k.toNat undef).cells.getD 0 undef).toI=(45:Int))) (T.leaf ((X.ret,[AV.int IntKind.i64 12,AV.ptr 1 0,AV.int IntKind.i64 k],
 [Blk.var [AV.str a0,AV.str a1,AV.lst 5 (List.map tyC.elem a2) Tl.open_,AV.lst 2 (List.map tyF.elem a3) Tl.open_,AV.lst 5 (List.map tyM.elem a4) Tl.open_],Blk.var [AV.str m0,AV.str m1,AV.int IntKind.i64 m2,AV.lst 2 (List.map tyI.elem m3) Tl.open_,AV.lst 4 (List.map tyH.elem m4) Tl.open_]]))) (T.leaf ((X.normal,[AV.fsl 0 [],AV.ptr 1 0,AV.int IntKind.i64 (IntKind.i64.wrap (k+1))],
 [Blk.var [AV.str a0,AV.str a1,AV.lst 5 (List.map tyC.elem a2) Tl.open_,AV.lst 2 (List.map tyF.elem a3) Tl.open_,AV.lst 5 (List.map tyM.elem a4) Tl.open_],Blk.var [AV.str m0,AV.str m1,AV.int IntKind.i64 m2,AV.lst 2 (List.map tyI.elem m3) Tl.open_,AV.lst 4 (List.map tyH.elem m4) Tl.open_]])))) T.fail) (T.leaf ((X.exit 0,[AV.fsl 0 [],AV.ptr 1 0,AV.int IntKind.i64 k],[Blk.var [AV.str a0,
 AV.str a1,AV.lst 5 (List.map tyC.elem a2) Tl.open_,AV.lst 2 (List.map tyF.elem a3) Tl.open_,AV.lst 5 (List.map tyM.elem a4) Tl.open_],Blk.var [AV.str m0,AV.str m1,AV.int IntKind.i64 m2,AV.lst 2 (List.map tyI.elem m3) Tl.open_,AV.lst 4 (List.map tyH.elem m4) Tl.open_]])))):=by kernel_rfl
theorem p42s(a0 a1:ByteArray)(a2:List tyC.I)(a3:List tyF.I)(a4:List tyM.I)(m0 m1:ByteArray)(m2:Int)(m3:List tyI.I)(m4:List tyH.I)(r p e w i:Int):runV (X42 a0 a1 a2 a3 a4 m0 m1 m2 m3 m4 r p e w) (kAt [1,1,1,1,1,1,1,1,1,0,1] (st42 0) [.var [.str a0, .str a1,encL tyC a2,encL tyF a3,encL tyM a4], .var [.str m0, .str m1, .int .i64 m2,encL tyI m3,encL tyH m4]] .ret [(4, .int .i64 12)] [.var [.str a0, .str a1,encL tyC a2,encL tyF a3,encL tyM a4], .var [.str m0, .str m1, .int .i64 m2,encL tyI m3,encL tyH m4]]) Tryz.f61 (bodyOf Tryz.f61) [.agg [.str a0, .str a1,encL tyC a2,encL tyF a3,encL tyM a4], .int .i64 i]=
 ((fun(s0:T AV)=>((fun(s1:T AV)=>(T.br (decide ((0:Int)≤i)&&decide (i<(↑(List.map tyM.elem a4).length:Int))&&fitsC Tryz.prog (41:Nat) ((List.map tyM.elem a4).getD i.toNat undef)) (T.br (askQ (clN (58:FuncId)).2 [AV.str (((List.map tyM.elem a4).getD i.toNat undef).cells.getD 0 undef).toS]) (T.br (!nmA [AV.str (((List.map tyM.elem a4).getD i.toNat undef).cells.getD 0
 undef).toS]) (T.leaf (AV.int IntKind.i64 7)) (T.br (askQ (clS (83:FuncId)).2 [AV.str (((List.map tyM.elem a4).getD i.toNat undef).cells.getD 1 undef).toS]) (T.br (!decide (sp3 [AV.str (((List.map tyM.elem a4).getD i.toNat undef).cells.getD 1 undef).toS]=(0:Int))) (T.leaf (AV.int IntKind.i64 5)) (T.br (askQ (fun a=>a= [AV.agg [AV.str a0,AV.str a1,encL tyC a2,encL tyF a3,encL tyM a4],
 AV.str m0]) [AV.agg [AV.str a0,AV.str a1,AV.lst 5 (List.map tyC.elem a2) Tl.open_,AV.lst 2 (List.map tyF.elem a3) Tl.open_,AV.lst 5 (List.map tyM.elem a4) Tl.open_],AV.str (((List.map tyM.elem a4).getD i.toNat undef).cells.getD 0 undef).toS]) (T.br (decide (r<i)) (T.leaf (AV.int IntKind.i64 8)) (T.br (decide ((24:Int)<(((List.map tyM.elem a4).getD i.toNat undef).cells.getD 2 undef).toI))
 (T.br true (T.leaf (AV.int IntKind.i64 2)) s1) (T.br (decide ((((List.map tyM.elem a4).getD i.toNat undef).cells.getD 2 undef).toI<IntKind.i64.wrap ((↑(sp2 [AV.str (((List.map tyM.elem a4).getD i.toNat undef).cells.getD 1 undef).toS]).length:Int)+(1:Int)))) (T.leaf (AV.int IntKind.i64 2)) s1))) T.fail)) T.fail)) T.fail) T.fail)) (T.br (askQ (fun a=>a= [encL tyI m3,encL tyC a2,AV.int
 IntKind.i64 m2]) [AV.lst 2 (((List.map tyM.elem a4).getD i.toNat undef).cells.getD 3 undef).toL Tl.open_,AV.lst 5 (List.map tyC.elem a2) Tl.open_,AV.int IntKind.i64 (((List.map tyM.elem a4).getD i.toNat undef).cells.getD 2 undef).toI]) (T.br (!decide (e=(0:Int))) (T.leaf (AV.int IntKind.i64 e)) s0) T.fail))) (T.br (askS [AV.ptr 1 (0:Nat),AV.int IntKind.i64 (0:Int)] [AV.ptr 1 (0:Nat),
 AV.int IntKind.i64 (↑(0:Nat):Int)] [Blk.var [AV.str a0,AV.str a1,AV.lst 5 (List.map tyC.elem a2) Tl.open_,AV.lst 2 (List.map tyF.elem a3) Tl.open_,AV.lst 5 (List.map tyM.elem a4) Tl.open_],Blk.var [AV.str (((List.map tyM.elem a4).getD i.toNat undef).cells.getD 0 undef).toS,AV.str (((List.map tyM.elem a4).getD i.toNat undef).cells.getD 1 undef).toS,AV.int IntKind.i64 (((List.map tyM.elem
 a4).getD i.toNat undef).cells.getD 2 undef).toI,AV.lst 2 (((List.map tyM.elem a4).getD i.toNat undef).cells.getD 3 undef).toL Tl.open_,AV.lst 4 (((List.map tyM.elem a4).getD i.toNat undef).cells.getD 4 undef).toL Tl.open_]] [Blk.var [AV.str a0,AV.str a1,AV.lst 5 (List.map tyC.elem a2) Tl.open_,AV.lst 2 (List.map tyF.elem a3) Tl.open_,AV.lst 5 (List.map tyM.elem a4) Tl.open_],Blk.var [AV.str
 m0,AV.str m1,AV.int IntKind.i64 m2,AV.lst 2 (List.map tyI.elem m3) Tl.open_,AV.lst 4 (List.map tyH.elem m4) Tl.open_]]) (T.leaf (AV.int IntKind.i64 12)) T.fail)):=by kernel_rfl
theorem p42n(a0 a1:ByteArray)(a2:List tyC.I)(a3:List tyF.I)(a4:List tyM.I)(m0 m1:ByteArray)(m2:Int)(m3:List tyI.I)(m4:List tyH.I)(r p e w i:Int):runV (X42 a0 a1 a2 a3 a4 m0 m1 m2 m3 m4 r p e w) (kAt [1,1,1,1,1,1,1,1,1,0,1] (st42 0) [.var [.str a0, .str a1,encL tyC a2,encL tyF a3,encL tyM a4], .var [.str m0, .str m1, .int .i64 m2,encL tyI m3,encL tyH m4]] .normal [(5, .ptr 1 0)] [.var [.str a0, .str a1,encL tyC a2,encL tyF a3,encL tyM a4], .var [.str m0, .str m1, .int .i64 m2,encL tyI m3,encL tyH m4]]) Tryz.f61 (bodyOf Tryz.f61) [.agg [.str a0, .str a1,encL tyC a2,encL tyF a3,encL tyM a4], .int .i64 i]=
 ((fun(s0:T AV)=>((fun(s1:T AV)=>((fun(s2:T AV)=>(T.br (decide ((0:Int)≤i)&&decide (i<(↑(List.map tyM.elem a4).length:Int))&&fitsC Tryz.prog (41:Nat) ((List.map tyM.elem a4).getD i.toNat undef)) (T.br (askQ (clN (58:FuncId)).2 [AV.str (((List.map tyM.elem a4).getD i.toNat undef).cells.getD 0 undef).toS]) (T.br (!nmA [AV.str (((List.map tyM.elem a4).getD i.toNat
 undef).cells.getD 0 undef).toS]) (T.leaf (AV.int IntKind.i64 7)) (T.br (askQ (clS (83:FuncId)).2 [AV.str (((List.map tyM.elem a4).getD i.toNat undef).cells.getD 1 undef).toS]) (T.br (!decide (sp3 [AV.str (((List.map tyM.elem a4).getD i.toNat undef).cells.getD 1 undef).toS]=(0:Int))) (T.leaf (AV.int IntKind.i64 5)) (T.br (askQ (fun a=>a= [AV.agg [AV.str a0,AV.str a1,encL tyC a2,encL tyF
 a3,encL tyM a4],AV.str m0]) [AV.agg [AV.str a0,AV.str a1,AV.lst 5 (List.map tyC.elem a2) Tl.open_,AV.lst 2 (List.map tyF.elem a3) Tl.open_,AV.lst 5 (List.map tyM.elem a4) Tl.open_],AV.str (((List.map tyM.elem a4).getD i.toNat undef).cells.getD 0 undef).toS]) (T.br (decide (r<i)) (T.leaf (AV.int IntKind.i64 8)) (T.br (decide ((24:Int)<(((List.map tyM.elem a4).getD i.toNat
 undef).cells.getD 2 undef).toI)) (T.br true (T.leaf (AV.int IntKind.i64 2)) s2) (T.br (decide ((((List.map tyM.elem a4).getD i.toNat undef).cells.getD 2 undef).toI<IntKind.i64.wrap ((↑(sp2 [AV.str (((List.map tyM.elem a4).getD i.toNat undef).cells.getD 1 undef).toS]).length:Int)+(1:Int)))) (T.leaf (AV.int IntKind.i64 2)) s2))) T.fail)) T.fail)) T.fail) T.fail)) (T.br (askQ (fun a=>a=
 [encL tyI m3,encL tyC a2,AV.int IntKind.i64 m2]) [AV.lst 2 (((List.map tyM.elem a4).getD i.toNat undef).cells.getD 3 undef).toL Tl.open_,AV.lst 5 (List.map tyC.elem a2) Tl.open_,AV.int IntKind.i64 (((List.map tyM.elem a4).getD i.toNat undef).cells.getD 2 undef).toI]) (T.br (!decide (e=(0:Int))) (T.leaf (AV.int IntKind.i64 e)) s1) T.fail))) (T.br (askS [AV.ptr 1 (0:Nat),AV.int IntKind.i64
 (0:Int)] [AV.ptr 1 (0:Nat),AV.int IntKind.i64 (↑(0:Nat):Int)] [Blk.var [AV.str a0,AV.str a1,AV.lst 5 (List.map tyC.elem a2) Tl.open_,AV.lst 2 (List.map tyF.elem a3) Tl.open_,AV.lst 5 (List.map tyM.elem a4) Tl.open_],Blk.var [AV.str (((List.map tyM.elem a4).getD i.toNat undef).cells.getD 0 undef).toS,AV.str (((List.map tyM.elem a4).getD i.toNat undef).cells.getD 1 undef).toS,AV.int
 IntKind.i64 (((List.map tyM.elem a4).getD i.toNat undef).cells.getD 2 undef).toI,AV.lst 2 (((List.map tyM.elem a4).getD i.toNat undef).cells.getD 3 undef).toL Tl.open_,AV.lst 4 (((List.map tyM.elem a4).getD i.toNat undef).cells.getD 4 undef).toL Tl.open_]] [Blk.var [AV.str a0,AV.str a1,AV.lst 5 (List.map tyC.elem a2) Tl.open_,AV.lst 2 (List.map tyF.elem a3) Tl.open_,AV.lst 5 (List.map
 tyM.elem a4) Tl.open_],Blk.var [AV.str m0,AV.str m1,AV.int IntKind.i64 m2,AV.lst 2 (List.map tyI.elem m3) Tl.open_,AV.lst 4 (List.map tyH.elem m4) Tl.open_]]) s0 T.fail))) (T.br (askQ (fun a=>a= [encL tyH m4,AV.int IntKind.i64 (↑(List.map tyI.elem m3).length:Int)]) [AV.lst 4 (List.map tyH.elem m4) Tl.open_,AV.int IntKind.i64 (↑(List.map tyI.elem m3).length:Int)]) (T.leaf (AV.int
 IntKind.i64 w)) T.fail)):=by kernel_rfl
theorem getD_mem{α:Type}{l:List α}{i:Nat}{d:α}(h:i<l.length):l.getD i d∈l:=by
 rw[List.getD_eq_getElem?_getD,List.getElem?_eq_getElem h];exact List.getElem_mem h
theorem first_lt{p:Nat→Prop}{n i:Nat}(hi:i<n)(hp:p i):(placeOf (firstI p n)<(i:Int))↔ ∃k,k<i∧p k:=by
 cases hf:firstI p n with
 |none=>exact absurd hp (firstI_none hf i hi)
 |some j=>
  obtain⟨h1,h2,h3⟩:=firstI_some hf;show((j:Int)<(i:Int))↔_;constructor
  ·intro h;exact⟨j,by omega,h2⟩
  ·rintro⟨k,hk,hpk⟩
   rcases Nat.lt_or_ge j i with h|h
   ·omega
   ·exact absurd hpk (h3 k (by omega))
def hm42(a0 a1:ByteArray)(a2:List tyC.I)(a3:List tyF.I)(a4:List tyM.I)(m0 m1:ByteArray)(m2:Int)(m3:List tyI.I)(m4:List tyH.I):H:= [.var [.str a0, .str a1,encL tyC a2,encL tyF a3,encL tyM a4], .var [.str m0, .str m1, .int .i64 m2,encL tyI m3,encL tyH m4]]
theorem old42(a0 a1:ByteArray)(a2:List tyC.I)(a3:List tyF.I)(a4:List tyM.I)(m0 m1:ByteArray)(m2:Int)(m3:List tyI.I)(m4:List tyH.I)(hl:m3.length<1000000000000000):match firstI (isOld m3) m3.length with
  |some _=>KOK E0 80 [] (bodyOf Tryz.f61) (kAt [1,1,1,1,1,1,1,1,1,0,1] (st42 0) (hm42 a0 a1 a2 a3 a4 m0 m1 m2 m3 m4) .ret [(4, .int .i64 12)] (hm42 a0 a1 a2 a3 a4 m0 m1 m2 m3 m4))
  |none=>KOK E0 80 [] (bodyOf Tryz.f61) (kAt [1,1,1,1,1,1,1,1,1,0,1] (st42 0) (hm42 a0 a1 a2 a3 a4 m0 m1 m2 m3 m4) .normal [(5, .ptr 1 0)] (hm42 a0 a1 a2 a3 a4 m0 m1 m2 m3 m4)):=by
 have f0:fitsC Tryz.prog 61 (tyI.elem tyI.zero)=true:=by kernel_rfl
 have hT:=find_rounds (E:=E0) (N:=80) (h0:= []) (c:=sub (bodyOf Tryz.f61) [1,1,1,1,1,1,1,1,1,0,1,0,0]) (p:=isOld m3) (n:=m3.length) (st:=st42) (hm:=hm42 a0 a1 a2 a3 a4 m0 m1 m2 m3 m4) (rt:=fun _=> [(4, .int .i64 12)]) (id:=0)
  (fun j hj hp=>by
   have ht:=p42i a0 a1 a2 a3 a4 m0 m1 m2 m3 m4 j
   have hp':decide (((tyI.elem (m3.getD j tyI.zero)).cells.getD 0 undef).toI=45)=false:=decide_eq_false hp;rw[idx_ok hj f0,lt_ok hj,Int.toNat_natCast,getD_elem hj,wrap_next (by omega),hp']at ht
   exact Tri.seen g0 (noCalls fun _ _ _=>rfl) KOK.none rfl (congrArg T.run ht) (by
    intro q hq;simp only[st42,List.mem_cons,List.not_mem_nil,or_false]at hq
    rcases hq with rfl|rfl<;>rfl))
  (fun j hj hp=>by
   have ht:=p42i a0 a1 a2 a3 a4 m0 m1 m2 m3 m4 j
   have hp':decide (((tyI.elem (m3.getD j tyI.zero)).cells.getD 0 undef).toI=45)=true:=decide_eq_true hp;rw[idx_ok hj f0,lt_ok hj,Int.toNat_natCast,getD_elem hj,hp']at ht
   exact Tri.seen g0 (noCalls fun _ _ _=>rfl) KOK.none rfl (congrArg T.run ht) (by
    intro q hq;simp only[List.mem_cons,List.not_mem_nil,or_false]at hq
    rcases hq with rfl;rfl))
  (by
   have ht:=p42i a0 a1 a2 a3 a4 m0 m1 m2 m3 m4 m3.length
   rw[lt_no]at ht
   exact Tri.seen g0 (noCalls fun _ _ _=>rfl) KOK.none rfl (congrArg T.run ht) (by
    intro q hq;simp only[st42,List.mem_cons,List.not_mem_nil,or_false]at hq
    rcases hq with rfl|rfl<;>rfl))
 cases hf:firstI (isOld m3) m3.length with
 |some i=>rw [hf]at hT;exact kAt_ok (Tri.block (id:=0) (Tri.loop hT))
 |none=>
  rw[hf]at hT
  exact kAt_ok (.wk .refl (Tri.block (id:=0) (Tri.loop hT)) (Wk.fewer fun q hq=>by
   obtain rfl:=List.mem_singleton.1 hq
   rfl))
set_option maxRecDepth 100000 in
theorem con42r(a0 a1:ByteArray)(a2:List tyC.I)(a3:List tyF.I)(a4:List tyM.I)(m0 m1:ByteArray)(m2:Int)(m3:List tyI.I)(m4:List tyH.I)(i:Nat)(hi:i<a4.length)(hl:a4.length<1000000000000000)(hx:a4.getD i tyM.zero=(m0,m1,m2,m3,m4))
  (hm:tyM.okay (a4.getD i tyM.zero)) (h:H):Con E0 61 [tyK.elem (a0,a1,a2,a3,a4), .int .i64 i] h (.int .i64 (methodE a2 a4 i)) h:=by
 have hn:noRefs [tyK.elem (a0,a1,a2,a3,a4), .int .i64 i]=true:=by
  have:=noRefs1 tyK (a0,a1,a2,a3,a4)
  simp only[noRefs,Bool.and_true]at this ⊢
  rw[this];rfl
 have f0:fitsC Tryz.prog 41 (tyM.elem tyM.zero)=true:=by kernel_rfl
 have hm':tyM.okay (m0,m1,m2,m3,m4):=by
  have:=hm;rw[hx]at this;exact this
 have l3:m3.length<1000000000000000:=Nat.lt_of_le_of_lt hm'.2.2.2.1.1 (by decide);have l4:m4.length<1000000000000000:=Nat.lt_of_le_of_lt hm'.2.2.2.2.1 (by decide);obtain⟨r,hr⟩: ∃r,r=placeOf (firstI (fun j=>nmM (a4.getD j tyM.zero)=m0) a4.length):=⟨_,rfl⟩;obtain⟨p,hp⟩: ∃p,p=(checkR m3 a2 m2).1:=⟨_,rfl⟩;obtain⟨e,he⟩: ∃e,e=(checkR m3 a2 m2).2:=⟨_,rfl⟩;obtain⟨w,hw⟩: ∃w,w=handsE m4 (((m3.map tyI.elem).length:Nat):Int):=⟨_,rfl⟩
 have hcall:CallOK (X42 a0 a1 a2 a3 a4 m0 m1 m2 m3 m4 r p e w).E (X42 a0 a1 a2 a3 a4 m0 m1 m2 m3 m4 r p e w).calls:=callsBy_ok rfl fun c hc=>by
  rcases List.mem_cons.1 hc with rfl|hc
  ·exact clN39
  rcases List.mem_cons.1 hc with rfl|hc
  ·exact clS72
  rcases List.mem_cons.1 hc with rfl|hc
  ·rintro args rfl h
   rw[hr];exact con17r a0 a1 a2 a3 a4 m0 hl h
  rcases List.mem_cons.1 hc with rfl|hc
  ·rintro args rfl h
   rw[hp,he];exact con73 m3 a2 m2 l3 h
  ·obtain rfl:=List.mem_singleton.1 hc
   rintro args rfl h;rw[hw];exact con74 m4 _ l4 hm'.2.2.2.2.2 h
 have hE:methodE a2 a4 i=(match nmA [.str m0]with
  |false=>7
  |true=>match decide (sp3 [.str m1]=0)with
   |false=>5
   |true=>match ask (∃k,k<i∧nmM (a4.getD k tyM.zero)=m0)with
    |true=>8
    |false=>match decide (24<m2),decide (m2≤((sp2 [.str m1]).length:Int))with
     |false,false=>codeE a2 m2 m3 m4
     |_,_=>2):=by
  unfold methodE;rw[codeA_eq,hx];rfl
 have n0:((tyM.elem (a4.getD i tyM.zero)).cells.getD 0 undef).toS=m0:=by rw[hx];rfl
 have n1:((tyM.elem (a4.getD i tyM.zero)).cells.getD 1 undef).toS=m1:=by rw[hx];rfl
 have n2:((tyM.elem (a4.getD i tyM.zero)).cells.getD 2 undef).toI=m2:=by rw[hx];rfl
 have n3:((tyM.elem (a4.getD i tyM.zero)).cells.getD 3 undef).toL=m3.map tyI.elem:=by rw[hx];rfl
 have n4:((tyM.elem (a4.getD i tyM.zero)).cells.getD 4 undef).toL=m4.map tyH.elem:=by rw[hx];rfl
 have fin: ∀{K:Known},KOK E0 80 [] (bodyOf Tryz.f61) K→(runV (X42 a0 a1 a2 a3 a4 m0 m1 m2 m3 m4 r p e w) K Tryz.f61 (bodyOf Tryz.f61) [tyK.elem (a0,a1,a2,a3,a4), .int .i64 i]).run= .ok (.int .i64 (methodE a2 a4 i))→Con E0 61 [tyK.elem (a0,a1,a2,a3,a4), .int .i64 i] h (.int .i64 (methodE a2 a4 i)) h:=fun hk hr=>
  Con.pureV (X:=X42 a0 a1 a2 a3 a4 m0 m1 m2 m3 m4 r p e w) g0 noG0 hcall (fn:=Tryz.f61) Tryz.func61 (c:=bodyOf Tryz.f61) rfl rfl (args:= [tyK.elem (a0,a1,a2,a3,a4), .int .i64 i]) hk hn hr (Le.refl _) rfl h
 have okN:okS [AV.str m0]:=⟨m0,rfl,hm'.1⟩;have okG:okS [AV.str m1]:=⟨m1,rfl,hm'.2.1⟩;have hself:nmM (a4.getD i tyM.zero)=m0:=n0
 have h8:(r<(i:Int))↔ ∃k,k<i∧nmM (a4.getD k tyM.zero)=m0:=by rw[hr];exact first_lt (p:=fun j=>nmM (a4.getD j tyM.zero)=m0) hi hself
 have hsp:=sp2_len m1 hm'.2.1
 have hwr:decide (m2<IntKind.i64.wrap (((sp2 [AV.str m1]).length:Int)+1))=decide (m2≤((sp2 [AV.str m1]).length:Int)):=by
  rw[wrap_next (by omega)]
  by_cases hh:m2≤((sp2 [AV.str m1]).length:Int)
  ·rw[decide_eq_true hh,decide_eq_true (by omega)]
  ·rw[decide_eq_false hh,decide_eq_false (by omega)]
 have ho:=old42 a0 a1 a2 a3 a4 m0 m1 m2 m3 m4 l3
 have hcode:codeE a2 m2 m3 m4=if e≠0 then e else if 0≤oldAt m3 then 12 else w:=by rw[he,hw];rfl
 have hold:oldAt m3=placeOf (firstI (isOld m3) m3.length):=rfl;rw[hcode,hold]at hE
 cases hf:firstI (isOld m3) m3.length with
 |some k=>
  rw[hf]at ho hE
  have ht:=p42s a0 a1 a2 a3 a4 m0 m1 m2 m3 m4 r p e w i
  rw[idx_ok hi f0,Int.toNat_natCast,getD_elem hi,n0,n1,n2,n3,n4,hwr]at ht;refine fin ho ((congrArg T.run ht).trans ?_);rw[hE];refine bT rfl (bA ?_ okN)
  cases hc1:nmA [.str m0]with
  |false=>exact bT rfl rfl
  |true=>
   refine bF rfl (bA ?_ okG)
   by_cases h5:sp3 [.str m1]=0
   ·rw[decide_eq_true h5]
    refine bF rfl (bA ?_ rfl)
    by_cases h9:r<(i:Int)
    ·rw[ask_true (h8.1 h9)]
     exact bT (decide_eq_true h9) rfl
    ·rw[ask_false (fun hh=>h9 (h8.2 hh))]
     refine bF (decide_eq_false h9) ?_
     by_cases h2:24<m2
     ·rw[decide_eq_true h2]
      exact bT rfl (bT rfl (by cases decide (m2≤((sp2 [AV.str m1]).length:Int))<;>rfl))
     ·rw[decide_eq_false h2]
      refine bF rfl ?_
      cases decide (m2≤((sp2 [AV.str m1]).length:Int))with
      |true=>exact bT rfl rfl
      |false=>
       refine bF rfl (bA ?_ rfl)
       by_cases h0:e=0
       ·rw[if_neg (fun hh=>hh h0)]
        refine bF (by rw[decide_eq_true h0];rfl) (bS ?_);rw[if_pos (by simp[placeOf])];rfl
       ·rw[if_pos h0]
        exact bT (by rw[decide_eq_false h0];rfl) rfl
   ·rw[decide_eq_false h5]
    exact bT rfl rfl
 |none=>
  rw[hf]at ho hE
  have ht:=p42n a0 a1 a2 a3 a4 m0 m1 m2 m3 m4 r p e w i
  rw[idx_ok hi f0,Int.toNat_natCast,getD_elem hi,n0,n1,n2,n3,n4,hwr]at ht;refine fin ho ((congrArg T.run ht).trans ?_);rw[hE];refine bT rfl (bA ?_ okN)
  cases hc1:nmA [.str m0]with
  |false=>exact bT rfl rfl
  |true=>
   refine bF rfl (bA ?_ okG)
   by_cases h5:sp3 [.str m1]=0
   ·rw[decide_eq_true h5]
    refine bF rfl (bA ?_ rfl)
    by_cases h9:r<(i:Int)
    ·rw[ask_true (h8.1 h9)]
     exact bT (decide_eq_true h9) rfl
    ·rw[ask_false (fun hh=>h9 (h8.2 hh))]
     refine bF (decide_eq_false h9) ?_
     by_cases h2:24<m2
     ·rw[decide_eq_true h2]
      exact bT rfl (bT rfl (by cases decide (m2≤((sp2 [AV.str m1]).length:Int))<;>rfl))
     ·rw[decide_eq_false h2]
      refine bF rfl ?_
      cases decide (m2≤((sp2 [AV.str m1]).length:Int))with
      |true=>exact bT rfl rfl
      |false=>
       refine bF rfl (bA ?_ rfl)
       by_cases h0:e=0
       ·rw[if_neg (fun hh=>hh h0)]
        refine bF (by rw[decide_eq_true h0];rfl) (bS ?_);rw[if_neg (by decide)];exact bA rfl rfl
       ·rw[if_pos h0]
        exact bT (by rw[decide_eq_false h0];rfl) rfl
   ·rw[decide_eq_false h5]
    exact bT rfl rfl
theorem con42(x:tyK.I)(i:Nat)(hx:tyK.okay x)(hi:i<List.length (α:=tyM.I) x.2.2.2.2)(h:H):Con E0 61 [tyK.elem x, .int .i64 i] h (.int .i64 (methodE x.2.2.1 x.2.2.2.2 i)) h:=by
 obtain⟨a0,a1,a2,a3,a4⟩:=x;obtain⟨⟨m0,m1,m2,m3,m4⟩,hm⟩: ∃x:tyM.I,List.getD (α:=tyM.I) a4 i tyM.zero=x:=⟨_,rfl⟩;have ho:tyM.okay (List.getD (α:=tyM.I) a4 i tyM.zero):=hx.2.2.2.2.2 _ (getD_mem hi);exact con42r a0 a1 a2 a3 a4 m0 m1 m2 m3 m4 i hi (Nat.lt_of_le_of_lt hx.2.2.2.2.1 (by decide)) hm ho h
noncomputable def X66:SX:={E:=E0,f:=38,con:=fun _=>false,split:=fun _=>false,call:=callsRun [(65,XN 65 [15],Tryz.f65,bodyOf Tryz.f65),(66,XN 66 [],Tryz.f66,bodyOf Tryz.f66)]}
noncomputable def X94:SX:={E:=E0,f:=68,con:=fun _=>false,split:=fun _=>false,call:=callsRun [(38,X66,Tryz.f38,bodyOf Tryz.f38)]}
noncomputable def E12:Env:={E0 with M:=12}
noncomputable def X53:SX:={E:=E12,f:=86,con:=fun _=>false,split:=fun d=> [14,22].contains d,call:=fun _ _ _=> .fail}
noncomputable def X51:SX:={E:=E12,f:=115,con:=fun _=>false,split:=fun _=>false,call:=callsRun [(86,X53,Tryz.f86,bodyOf Tryz.f86)]}
noncomputable def kTx(s:ByteArray)(t h:Nat):AV→T AV
 | .lst 1 l (.own _)=> .br (room l.length (ofBytes s).length (ofBytes s)) (.leaf (.lst 1 (l++ofBytes s) (.own t))) .fail
 | .lst 1 l _=> .br (room l.length (ofBytes s).length (ofBytes s)) (.br (ofBytes s).isEmpty (.leaf (.lst 1 l .clip)) (.leaf (.lst 1 (l++ofBytes s) (.own h)))) .fail
 | .nils=> .br (room 0 (ofBytes s).length (ofBytes s)) (.br (ofBytes s).isEmpty (.leaf .nils) (.leaf (.lst 1 (ofBytes s) (.own h)))) .fail
 |_=> .fail
theorem p66(bs:List AV)(n:Int):runV X66 (fun _=>none) Tryz.f38 (bodyOf Tryz.f38) [.lst 1 bs .open_, .int .i64 n]=putP (fun v=> .leaf v) bs 10 [] (zigP n):=by kernel_rfl
theorem p94(bs:List AV)(s:ByteArray):runV X94 (fun _=>none) Tryz.f68 (bodyOf Tryz.f68) [.lst 1 bs .open_, .str s]=putP (kTx s 4 3) bs 10 [] (zigP (s.size:Int)):=by kernel_rfl
theorem p53(bs:List AV)(n:Int):runV X53 (fun _=>none) Tryz.f86 (bodyOf Tryz.f86) [.lst 1 bs .open_, .int .i64 n]=putR (fun v _=> .leaf v) bs n 12:=by kernel_rfl
theorem p51(bs:List AV)(s:ByteArray):runV X51 (fun _=>none) Tryz.f115 (bodyOf Tryz.f115) [.lst 1 bs .open_, .str s]=putR (fun v h=>kTx s h h v) bs (s.size:Int) 12:=by kernel_rfl
theorem gX12:Ground E12:=⟨fun t h=>by simpa [E12,E0]using h,cok_none (fun _ _=>rfl),bok_none (fun _=>rfl),by kernel_rfl⟩
theorem runs1{X Y:SX}{g:FuncId}{fn:Func}(hx:X.call=callsRun [(g,Y,fn,bodyOf fn)])(hE:Y.E=X.E)(gy:Ground Y.E)(hc:CallOK Y.E Y.calls)(hf:X.E.P.funcs[g]?=some fn)(hb:fn.body=some (bodyOf fn))(hn:(fn.name== "runtime.NumGoroutine")=false):CallOK X.E X.calls:=
 callsRun_ok hx fun r hr=>by
  obtain rfl:=List.mem_singleton.1 hr;exact⟨gy,hc,hE,hf,hb,hn⟩
theorem ok66:CallOK X66.E X66.calls:=callsRun_ok rfl fun r hr=>by
 rcases List.mem_cons.1 hr with rfl|hr
 ·exact⟨g0,noCalls fun _ _ _=>rfl,rfl,Tryz.func65,rfl,rfl⟩
 ·obtain rfl:=List.mem_singleton.1 hr
  exact⟨g0,noCalls fun _ _ _=>rfl,rfl,Tryz.func66,rfl,rfl⟩
theorem ok94:CallOK X94.E X94.calls:=runs1 rfl rfl g0 ok66 Tryz.func38 rfl rfl
theorem ok53:CallOK X53.E X53.calls:=noCalls fun _ _ _=>rfl
theorem ok51:CallOK X51.E X51.calls:=runs1 rfl rfl gX12 ok53 Tryz.func86 rfl rfl
theorem refs2{bs:List AV}(hb:IsB bs){v:AV}(hv:noRef v=true):noRefs [.lst 1 bs .open_,v]=true:=by
 simp only[noRefs,noRef,hb.noRefs,hv,Bool.and_true]
theorem refB{bs:List AV}(hb:IsB bs):noRef (.lst 1 bs .open_)=true:=by simp only[noRef,hb.noRefs,Bool.and_true]
theorem con66(bs:List AV)(n:Int)(hb:IsB bs)(hl:bs.length≤130000000000000)(h0: -9223372036854775808≤n)(h1:n<9223372036854775808)(h:H):Con E0 38 [.lst 1 bs .open_, .int .i64 n] h (.lst 1 (bs++numB n) .open_) h:=by
 obtain⟨z0,z1⟩:=zig_range h0 h1
 have h70:(18446744073709551616:Int)<128 ^ 10:=by decide
 have hr:(runV X66 (fun _=>none) Tryz.f38 (bodyOf Tryz.f38) [.lst 1 bs .open_, .int .i64 n]).run= .ok (.lst 1 (bs++numB n) (.own 3)):=by
  rw[p66,zigP_eq n h0 h1];exact putP_run 10 [] _ z0 (by omega) (by decide) (by simp;omega) IsB.nil rfl
 exact Con.pureV (X:=X66) g0 noG0 ok66 (fn:=Tryz.f38) Tryz.func38 (c:=bodyOf Tryz.f38) rfl rfl (args:= [.lst 1 bs .open_, .int .i64 n]) KOK.none (refs2 hb rfl) hr Le.open_ (refB (hb.append (numB_isB n))) h
theorem con53(bs:List AV)(n:Int)(hb:IsB bs)(hl:bs.length≤130000000000000)(h0: -9223372036854775808≤n)(h1:n<9223372036854775808)(h:H):Con E0 86 [.lst 1 bs .open_, .int .i64 n] h (.lst 1 (bs++numB n) .open_) h:=by
 obtain⟨k,hk⟩:=putR_run (K:=fun v _=> .leaf v) hb hl h0 h1
 have hv:(runV X53 (fun _=>none) Tryz.f86 (bodyOf Tryz.f86) [.lst 1 bs .open_, .int .i64 n]).run= .ok (.lst 1 (bs++numB n) (.own (k+1))):=by rw[p53,hk];rfl
 exact Con.env (E:=E12) rfl rfl (Con.pureV (X:=X53) gX12 noG0 ok53 (fn:=Tryz.f86) Tryz.func86 (c:=bodyOf Tryz.f86) rfl rfl (args:= [.lst 1 bs .open_, .int .i64 n]) KOK.none (refs2 hb rfl) hv Le.open_ (refB (hb.append (numB_isB n))) h)
theorem con94(bs:List AV)(s:ByteArray)(hb:IsB bs)(hl:bs.length+s.size≤130000000000000)(h:H):Con E0 68 [.lst 1 bs .open_, .str s] h (.lst 1 (bs++txB s) .open_) h:=by
 obtain⟨z0,z1⟩:=zig_range (n:=(s.size:Int)) (by omega) (by omega)
 have h70:(18446744073709551616:Int)<128 ^ 10:=by decide
 have hn:=numB_len (s.size:Int)
 have hr:(runV X94 (fun _=>none) Tryz.f68 (bodyOf Tryz.f68) [.lst 1 bs .open_, .str s]).run= .ok (.lst 1 (bs++txB s) (.own 4)):=by
  rw[p94,zigP_eq _ (by omega) (by omega)]
  refine putP_run 10 [] _ z0 (by omega) (by decide) (by simp;omega) IsB.nil ?_
  show(kTx s 4 3 (.lst 1 (bs++numB (s.size:Int)) (.own 3))).run=_
  refine bT (room_ok (by rw[List.length_append,ofBytes_len];omega) (ofBytes_isB s)) ?_
  rw[List.append_assoc];rfl
 exact Con.pureV (X:=X94) g0 noG0 ok94 (fn:=Tryz.f68) Tryz.func68 (c:=bodyOf Tryz.f68) rfl rfl (args:= [.lst 1 bs .open_, .str s]) KOK.none (refs2 hb rfl) hr Le.open_ (refB (hb.append (txB_isB s))) h
theorem con51(bs:List AV)(s:ByteArray)(hb:IsB bs)(hl:bs.length+s.size≤130000000000000)(h:H):Con E0 115 [.lst 1 bs .open_, .str s] h (.lst 1 (bs++txB s) .open_) h:=by
 obtain⟨k,hk⟩:=putR_run (K:=fun v h=>kTx s h h v) (n:=(s.size:Int)) hb (by omega) (by omega) (by omega)
 have hn:=numB_len (s.size:Int)
 have hv:(runV X51 (fun _=>none) Tryz.f115 (bodyOf Tryz.f115) [.lst 1 bs .open_, .str s]).run= .ok (.lst 1 (bs++txB s) (.own (k+2))):=by
  rw[p51,hk]
  refine bT (room_ok (by rw[List.length_append,ofBytes_len];omega) (ofBytes_isB s)) ?_
  rw[List.append_assoc];rfl
 exact Con.env (E:=E12) rfl rfl (Con.pureV (X:=X51) gX12 noG0 ok51 (fn:=Tryz.f115) Tryz.func115 (c:=bodyOf Tryz.f115) rfl rfl (args:= [.lst 1 bs .open_, .str s]) KOK.none (refs2 hb rfl) hv Le.open_ (refB (hb.append (txB_isB s))) h)
end Go.Proofs.YtaooangghieljaaGreatDoor.AM
namespace Go.Proofs.PL
open Go Go.RowKit Go.Proofs.YtaooangghieljaaGreatDoorW.PrintWords Go.Proofs.YtaooangghieljaaGreatDoor.Q
theorem gOk_30{g:List UInt8}(h:gOk g=true):g.length≤30:=by
 unfold gOk at h
 rcases Bool.or_eq_true _ _▸h with h|h
 ·have:g= [86]:=by simpa using h
  rw[this];decide
 ·exact(rightB_len h).2
theorem flat_30: ∀(us:List (List UInt8)),us.all rightB=true→us.flatten.length≤us.length*30
 | [],_=>by simp
 |x::us,h=>by
  simp only[List.all_cons,Bool.and_eq_true]at h;have:=flat_30 us h.2;have:=(rightB_len h.1).2;simp only[List.flatten_cons,List.length_append,List.length_cons];omega
theorem sig_212{us:List (List UInt8)}{g l:List UInt8}(h:sigB g us=(l,0)):l.length≤212:=by
 unfold sigB at h;split at h
 ·simp at h
 ·rename_i h6
  split at h
  ·rename_i h2
   simp only[Bool.and_eq_true]at h2;simp only[Prod.mk.injEq,and_true]at h;rw[←h];have:=flat_30 us h2.1;have:=gOk_30 h2.2;simp only[sigTx,List.length_cons,List.length_append];omega
  ·simp at h
def Fit(kind n:Int)(s t u:List UInt8):Prop:=
 (kind=1∧s= []∧t= []∧u= [])∨(kind=2∧n=0∧t= []∧u= []∧s.length≤64)∨(kind=3∧n=0∧t= []∧u= []∧s.length≤256)∨
 ((kind=4∨kind=5)∧n=0∧s.length≤256∧t.length≤256∧u.length≤256)
theorem isEmpty_mk(l:List UInt8):(mk l).toList.isEmpty=true↔l= []:=by rw[toList_mk];simp
theorem poolRight_ev(kind n:Int)(s t u:List UInt8)(hs:s.length≤9223372036854775806)(ht:t.length≤9223372036854775806)(hu:u.length≤9223372036854775806):
  ∃b:Bool,Ev (fun k=>pool_Right.f k kind n (mk s) (mk t) (mk u)) b∧(b=true→Fit kind n s t u):=by
 unfold pool_Right.f
 by_cases h1:kind=1
 ·refine⟨_,Ev.pos h1 (Ev.pure rfl),fun h=> .inl ⟨h1,?_⟩⟩
  simp only[Bool.and_eq_true,isEmpty_mk]at h;exact h
 by_cases h23:kind=2∨kind=3
 ·by_cases he:(n==0&&((mk t).toList.isEmpty&&(mk u).toList.isEmpty))=true
  ·have he':=he
   simp only[Bool.and_eq_true,isEmpty_mk,beq_iff_eq]at he'
   by_cases h2:kind=2
   ·refine⟨decide (s.length≤64),Ev.neg h1 (Ev.pos h23 (Ev.pos he (Ev.pos h2 (Ev.pure (by rw[size_mk]))))),fun h=> .inr (.inl ⟨h2,he'.1,he'.2.1,he'.2.2,by simpa using h⟩)⟩
   ·refine⟨rightB s,Ev.neg h1 (Ev.pos h23 (Ev.pos he (Ev.neg h2 (right_ev s hs)))),fun h=> .inr (.inr (.inl ⟨by omega,he'.1,he'.2.1,he'.2.2,by have:=(rightB_len h).2;omega⟩))⟩
  ·exact⟨false,Ev.neg h1 (Ev.pos h23 (Ev.neg he (Ev.pure rfl))),fun h=>by cases h⟩
 by_cases h45:kind=4∨kind=5
 ·obtain⟨us,g,e,i1,_,i3⟩:=split_both u hu
  have hok: ∃ok:Bool,Ev (fun k=>if kind=4 then desc_Right.f k (mk u)else some (decide (e=0))) ok∧(ok=true→u.length≤256):=by
   by_cases h4:kind=4
   ·exact⟨rightB u,Ev.pos h4 (right_ev u hu),fun h=>by have:=(rightB_len h).2;omega⟩
   ·refine⟨decide (e=0),Ev.neg h4 (Ev.pure rfl),fun h=>?_⟩
    rcases i3 with⟨_,hq⟩|⟨he,_⟩
    ·have:=sig_212 hq;omega
    ·rw[he]at h;simp at h
  obtain⟨ok,hok,hl⟩:=hok
  have base: ∀b,Ev (fun k=>if ok=true then(if n=0 then(bin_Name.f k (mk s)).bind fun n=>if n=true then bin_Name.f k (mk t)else some false else some false)else some false) b→
    Ev (fun k=>if kind=1 then some ((mk s).toList.isEmpty&&((mk t).toList.isEmpty&&(mk u).toList.isEmpty))else if kind=2∨kind=3 then(if(n==0&&((mk t).toList.isEmpty&&(mk u).toList.isEmpty))=true then(if kind=2 then some (decide ((mk s).size≤64))else desc_Right.f k (mk s))else some false)
     else if kind=4∨kind=5 then(desc_Split.f k (mk u)).bind fun sp=>(if kind=4 then desc_Right.f k (mk u)else some (decide (sp.2.2=0))).bind fun ok=>if ok=true then(if n=0 then(bin_Name.f k (mk s)).bind fun n=>if n=true then bin_Name.f k (mk t)else some false else some false)else some false
     else some false) b:=fun b h=>Ev.neg h1 (Ev.neg h23 (Ev.pos h45 (Ev.bind i1 (Ev.bind hok h))))
  cases ok with
  |false=>exact⟨false,base _ (Ev.neg (by decide) (Ev.pure rfl)),fun h=>by cases h⟩
  |true=>
   by_cases hn:n=0
   ·cases hns:nameB s with
    |false=>exact⟨false,base _ (Ev.pos rfl (Ev.pos hn (Ev.bind (hns▸binName s hs) (Ev.neg (by decide) (Ev.pure rfl))))),fun h=>by cases h⟩
    |true=>
     refine⟨nameB t,base _ (Ev.pos rfl (Ev.pos hn (Ev.bind (hns▸binName s hs) (Ev.pos rfl (binName t ht))))),fun h=> .inr (.inr (.inr ⟨h45,hn,by have:=(nameB_le hns).2;omega,by have:=(nameB_le h).2;omega,hl rfl⟩))⟩
   ·exact⟨false,base _ (Ev.pos rfl (Ev.neg hn (Ev.pure rfl))),fun h=>by cases h⟩
 ·exact⟨false,Ev.neg h1 (Ev.neg h23 (Ev.neg h45 (Ev.pure rfl))),fun h=>by cases h⟩
theorem Ev_same{α:Type}{f:Nat→Option α}{a b:α}(h:Ev f a)(h':Ev f b):a=b:=by
 obtain⟨k,hk⟩:=h;obtain⟨k',hk'⟩:=h'
 have h1:=hk (max k k') (Nat.le_max_left _ _)
 have h2:=hk' (max k k') (Nat.le_max_right _ _)
 rw[h1]at h2;exact Option.some.inj h2
end Go.Proofs.PL
namespace Go.Proofs.YtaooangghieljaaGreatDoor.AM
open Go Go.Proofs Go.RowKit
open Go.Proofs.YtaooangghieljaaGreatDoor
def fit5(a0:Int)(a2 a3 a4:ByteArray):Prop:=a0=1∨((a0=2∨a0=3)∧a2.size≤256)∨((a0=4∨a0=5)∧a2.size≤256∧a3.size≤256∧a4.size≤256)
def fitC:tyC.I→Prop:=fun(a0,_,a2,a3,a4)=>fit5 a0 a2 a3 a4
def GoodSp(c:tyC.I)(b:Bool):Prop:=(∀h,Con E0 55 [tyC.elem c] h (.bool b) h)∧(∀h,Con E0 114 [tyC.elem c] h (.bool b) h)∧(b=true→fitC c)
set_option maxRecDepth 100000 in
theorem good_raw(a0 a1:Int)(a2 a3 a4:ByteArray)(s2:a2.size≤140737488351232)(s3:a3.size≤140737488351232)(s4:a4.size≤140737488351232):
  ∃b:Bool,(∀h,Con E0 55 [.agg [.int .i64 a0, .int .i64 a1, .str a2, .str a3, .str a4]] h (.bool b) h)∧(∀h,Con E0 114 [.agg [.int .i64 a0, .int .i64 a1, .str a2, .str a3, .str a4]] h (.bool b) h)∧(b=true→fit5 a0 a2 a3 a4):=by
 obtain⟨b,⟨k1,h1⟩,⟨k2,h2⟩⟩:=Go.Proofs.PL.right_both a0 a1 (tl a2) (tl a3) (tl a4) (by rw[tl_len];omega) (by rw[tl_len];omega) (by rw[tl_len];omega);obtain⟨b',h3,h4⟩:=Go.Proofs.PL.poolRight_ev a0 a1 (tl a2) (tl a3) (tl a4) (by rw[tl_len];omega) (by rw[tl_len];omega) (by rw[tl_len];omega);have hb:b=b':=Go.Proofs.PL.Ev_same ⟨k1,h1⟩ h3
 have e1:=h1 k1 (Nat.le_refl _)
 have e2:=h2 k2 (Nat.le_refl _)
 simp only[mk_tl]at e1 e2;have hp:Pins [.agg #[.int .i64 a0, .int .i64 a1, .string a2, .string a3, .string a4]] [.agg [.int .i64 a0, .int .i64 a1, .str a2, .str a3, .str a4]]:= .cons (Pin.agg (xs:= [.int .i64 a0, .int .i64 a1, .string a2, .string a3, .string a4]) (.cons (Pin.int _ _) (.cons (Pin.int _ _) (.cons (Pin.str _) (.cons (Pin.str _) (.cons (Pin.str _) .nil)))))) .nil;refine⟨b,fun h=>?_,fun h=>?_,fun hb'=>?_⟩
 ·exact Con.of_calls hp (v:= .bool b) (fun _ _ _=> .bool _) (enters_of Tryz.func55 (by kernel_rfl) rfl _) (fun w=>Q.pool_Right.calls k1 a0 a1 a2 a3 a4 b w e1) h
 ·exact Con.of_calls hp (v:= .bool b) (fun _ _ _=> .bool _) (enters_of Tryz.func114 (by kernel_rfl) rfl _) (fun w=>Q.hornbookref03_Right.calls k2 a0 a1 a2 a3 a4 b w e2) h
 ·have hf:=h4 (hb▸hb')
  simp only[Go.Proofs.PL.Fit,tl_len]at hf
  rcases hf with⟨h,_⟩|⟨h,_,_,_,hs⟩|⟨h,_,_,_,hs⟩|⟨h,_,hs,ht,hu⟩
  ·exact .inl h
  ·exact .inr (.inl ⟨.inl h,by omega⟩)
  ·exact .inr (.inl ⟨.inr h,hs⟩)
  ·exact .inr (.inr ⟨h,hs,ht,hu⟩)
theorem good_ex(c:tyC.I)(hc:tyC.okay c): ∃b,GoodSp c b:=by
 obtain⟨a0,a1,a2,a3,a4⟩:=c;exact good_raw a0 a1 a2 a3 a4 hc.2.2.1 hc.2.2.2.1 hc.2.2.2.2
noncomputable def goodC(c:tyC.I):Bool:=by
 classical exact if h: ∃b,GoodSp c b then h.choose else false
theorem goodC_sp(c:tyC.I)(hc:tyC.okay c):GoodSp c (goodC c):=by
 unfold goodC;rw[dif_pos (good_ex c hc)];exact(good_ex c hc).choose_spec
noncomputable def goodA(args:List AV):Bool:=by
 classical exact if h: ∃v:Bool,∃c:tyC.I,args= [tyC.elem c]∧v=goodC c then h.choose else false
theorem goodA_eq(c:tyC.I):goodA [tyC.elem c]=goodC c:=by
 have h: ∃v:Bool,∃c':tyC.I,[tyC.elem c]= [tyC.elem c']∧v=goodC c':=⟨_,c,rfl,rfl⟩;unfold goodA;rw[dif_pos h];obtain⟨c',h1,h2⟩:=h.choose_spec;rw[h2];simp only[List.cons.injEq,and_true]at h1;rw[Ty.elem_inj h1]
noncomputable def clG(f:FuncId):Cl:=⟨f,okE1 tyC,fun args=> .bool (goodA args)⟩
theorem clG67: ∀args,(clG 55).ok args→ ∀h,Con E0 (clG 55).f args h ((clG 55).res args) h:=by
 rintro args ⟨c,rfl,hc⟩ h;show Con E0 55 _ h (.bool (goodA [tyC.elem c])) h;rw[goodA_eq];exact(goodC_sp c hc).1 h
theorem clG61: ∀args,(clG 114).ok args→ ∀h,Con E0 (clG 114).f args h ((clG 114).res args) h:=by
 rintro args ⟨c,rfl,hc⟩ h;show Con E0 114 _ h (.bool (goodA [tyC.elem c])) h;rw[goodA_eq];exact(goodC_sp c hc).2.1 h
def okPu(args:List AV):Prop:= ∃(bs:List AV) (n:Int),args= [.lst 1 bs .open_, .int .i64 n]∧IsB bs∧bs.length≤130000000000000∧ -9223372036854775808≤n∧n<9223372036854775808
def resPu:List AV→AV
 | [.lst _ bs _, .int _ n]=> .lst 1 (bs++numB n) .open_
 |_=>undef
def okTe(args:List AV):Prop:= ∃(bs:List AV) (s:ByteArray),args= [.lst 1 bs .open_, .str s]∧IsB bs∧bs.length+s.size≤130000000000000
def resTe:List AV→AV
 | [.lst _ bs _, .str s]=> .lst 1 (bs++txB s) .open_
 |_=>undef
noncomputable def clPu(f:FuncId):Cl:=⟨f,okPu,resPu⟩
noncomputable def clTe(f:FuncId):Cl:=⟨f,okTe,resTe⟩
noncomputable def X68:SX:={E:=E0,f:=56,con:=fun _=>false,split:=fun d=> [14,32].contains d,call:=fun f args h=>if f==81 then callsRun [(81,XN 81 [4,6,9],Tryz.f81,bodyOf Tryz.f81)] f args h else callsBy [clPu 38,clTe 68] f args h}
theorem p68(bs:List AV)(a0 a1:Int)(a2 a3 a4:ByteArray):runV X68 (fun _=>none) Tryz.f56 (bodyOf Tryz.f56) [.lst 1 bs .open_, .agg [.int .i64 a0, .int .i64 a1, .str a2, .str a3, .str a4]]=
 ((fun(s0:T AV)=>((fun(s1:T AV)=>((fun(s2:T AV)=>((fun(s3:T AV)=>((fun(s4:T AV)=>(T.br (askQ okPu [AV.lst 1 bs Tl.open_,AV.int IntKind.i64 a0]) (T.br (decide (a0=(1:Int))) (T.br (askQ okPu [AV.lst 1 (bs++numB a0) Tl.open_,AV.int IntKind.i64 a1]) (T.leaf (AV.lst 1 (bs++numB a0++numB a1) Tl.open_)) T.fail) (T.br (decide (a0=(1:Int))) (T.br false (T.br false s4
 T.fail) (T.leaf (AV.lst 1 (bs++numB a0) Tl.open_))) (T.br (decide (a0=(2:Int))) (T.br true (T.br true s4 T.fail) (T.leaf (AV.lst 1 (bs++numB a0) Tl.open_))) (T.br (decide (a0=(3:Int))) (T.br true (T.br true s4 T.fail) (T.leaf (AV.lst 1 (bs++numB a0) Tl.open_))) (T.br (decide (a0=(4:Int))) (T.br true (T.br true s2 T.fail) (T.leaf (AV.lst 1 (bs++numB a0) Tl.open_))) (T.br (decide
 (a0=(5:Int))) (T.br true (T.br true s2 T.fail) (T.leaf (AV.lst 1 (bs++numB a0) Tl.open_))) T.fail)))))) T.fail)) (T.br (askQ okTe [AV.lst 1 (bs++numB a0) Tl.open_,AV.str a2]) (T.br false (T.br false s3 T.fail) (T.leaf (AV.lst 1 (bs++numB a0++txB a2) Tl.open_))) T.fail))) (T.br (askQ okTe [AV.lst 1 (bs++numB a0++txB a2) Tl.open_,AV.str a3]) (T.br false (T.br false s0 T.fail)
 (T.leaf (AV.lst 1 (bs++numB a0++txB a2++txB a3) Tl.open_))) T.fail))) (T.br (askQ okTe [AV.lst 1 (bs++numB a0) Tl.open_,AV.str a2]) (T.br true (T.br true s1 T.fail) (T.leaf (AV.lst 1 (bs++numB a0++txB a2) Tl.open_))) T.fail))) (T.br (askQ okTe [AV.lst 1 (bs++numB a0++txB a2) Tl.open_,AV.str a3]) (T.br true (T.br true s0 T.fail) (T.leaf (AV.lst 1 (bs++numB a0++txB a2++txB a3)
 Tl.open_))) T.fail))) (T.br (askQ okTe [AV.lst 1 (bs++numB a0++txB a2++txB a3) Tl.open_,AV.str a4]) (T.br false (T.br false T.fail T.fail) (T.leaf (AV.lst 1 (bs++numB a0++txB a2++txB a3++txB a4) Tl.open_))) T.fail)):=by kernel_rfl
noncomputable def csL:List Cl:= [clTe 115]
noncomputable def EL:Env:={E0 with C:=lightC csL,LC:=fun f=>f==115}
noncomputable def X88:SX:={E:=EL,f:=87,con:=fun _=>false,split:=fun d=> [9,16,22].contains d,call:=callsBy [clG 114,clPu 86,clTe 115],lit:=fun f=>f==115}
theorem p88(bs:List AV)(a0 a1:Int)(a2 a3 a4:ByteArray):runV X88 (fun _=>none) Tryz.f87 (bodyOf Tryz.f87) [.lst 1 bs .open_, .agg [.int .i64 a0, .int .i64 a1, .str a2, .str a3, .str a4]]=
 (T.br (askQ (okE1 tyC) [AV.agg [AV.int IntKind.i64 a0,AV.int IntKind.i64 a1,AV.str a2,AV.str a3,AV.str a4]]) (T.br (!goodA [AV.agg [AV.int IntKind.i64 a0,AV.int IntKind.i64 a1,AV.str a2,AV.str a3,AV.str a4]]) (T.leaf (AV.tup [AV.nils,AV.int IntKind.i64 11])) (T.br (askQ okPu [AV.lst 1 bs Tl.open_,AV.int IntKind.i64 a0]) (T.br (decide (a0=(1:Int))) (T.br (askQ okPu [AV.lst 1 (bs++
 numB a0) Tl.open_,AV.int IntKind.i64 a1]) (T.leaf (AV.tup [AV.lst 1 (bs++numB a0++numB a1) Tl.open_,AV.int IntKind.i64 0])) T.fail) (T.br (decide (a0=(2:Int))) (T.br (askQ okTe [AV.lst 1 (bs++numB a0) Tl.open_,AV.str a2]) (T.br (askL EL (115:Nat) [AV.lst 1 (bs++numB a0) Tl.open_,AV.str a2] (AV.lst 1 (bs++numB a0++txB a2) Tl.open_)) (T.leaf (AV.tup [AV.lst 1 (bs++numB a0++
 txB a2) Tl.open_,AV.int IntKind.i64 0])) T.fail) T.fail) (T.br (decide (a0=(3:Int))) (T.br (askQ okTe [AV.lst 1 (bs++numB a0) Tl.open_,AV.str a2]) (T.br (askL EL (115:Nat) [AV.lst 1 (bs++numB a0) Tl.open_,AV.str a2] (AV.lst 1 (bs++numB a0++txB a2) Tl.open_)) (T.leaf (AV.tup [AV.lst 1 (bs++numB a0++txB a2) Tl.open_,AV.int IntKind.i64 0])) T.fail) T.fail) (T.br (askQ okTe [AV.lst
 1 (bs++numB a0) Tl.open_,AV.str a2]) (T.br (askL EL (115:Nat) [AV.lst 1 (bs++numB a0) Tl.open_,AV.str a2] (AV.lst 1 (bs++numB a0++txB a2) Tl.open_)) (T.br (askQ okTe [AV.lst 1 (bs++numB a0++txB a2) Tl.open_,AV.str a3]) (T.br (askL EL (115:Nat) [AV.lst 1 (bs++numB a0++txB a2) Tl.open_,AV.str a3] (AV.lst 1 (bs++numB a0++txB a2++txB a3) Tl.open_)) (T.br (askQ okTe [AV.lst 1
 (bs++numB a0++txB a2++txB a3) Tl.open_,AV.str a4]) (T.br (askL EL (115:Nat) [AV.lst 1 (bs++numB a0++txB a2++txB a3) Tl.open_,AV.str a4] (AV.lst 1 (bs++numB a0++txB a2++txB a3++txB a4) Tl.open_)) (T.leaf (AV.tup [AV.lst 1 (bs++numB a0++txB a2++txB a3++txB a4) Tl.open_,AV.int IntKind.i64 0])) T.fail) T.fail) T.fail) T.fail) T.fail) T.fail)))) T.fail)) T.fail):=by kernel_rfl
section
noncomputable def pick{α β:Type}(z:β)(enc:α→List AV)(f:α→β)(args:List AV):β:=by
 classical exact if h: ∃v:β,∃x:α,args=enc x∧v=f x then h.choose else z
theorem pick_eq{α β:Type}{z:β}{enc:α→List AV}{f:α→β}(hi: ∀x y,enc x=enc y→x=y)(x:α):pick z enc f (enc x)=f x:=by
 have h: ∃v:β,∃y:α,enc x=enc y∧v=f y:=⟨_,x,rfl,rfl⟩;unfold pick;rw[dif_pos h];obtain⟨y,h1,h2⟩:=h.choose_spec;rw[h2,hi x y h1]
end
def con5(a0 a1:Int)(a2 a3 a4:ByteArray):List AV:=if a0=1 then numB a0++numB a1 else if a0=2∨a0=3 then numB a0++txB a2 else numB a0++(txB a2++(txB a3++txB a4))
def conB:tyC.I→List AV:=fun(a0,a1,a2,a3,a4)=>con5 a0 a1 a2 a3 a4
theorem con5_isB(a0 a1:Int)(a2 a3 a4:ByteArray):IsB (con5 a0 a1 a2 a3 a4):=by
 unfold con5;split
 ·exact(numB_isB _).append (numB_isB _)
 split
 ·exact(numB_isB _).append (txB_isB _)
 ·exact(numB_isB _).append ((txB_isB _).append ((txB_isB _).append (txB_isB _)))
theorem con5_len{a0 a1:Int}{a2 a3 a4:ByteArray}(h:fit5 a0 a2 a3 a4):(con5 a0 a1 a2 a3 a4).length≤1000:=by
 have n0:=numB_len a0
 have n1:=numB_len a1
 have t2:=txB_len a2
 have t3:=txB_len a3
 have t4:=txB_len a4
 unfold con5;split
 ·simp only[List.length_append];omega
 rename_i h1;split
 ·rename_i h2
  have:a2.size≤256:=by rcases h with h|⟨_,h⟩|⟨h,_⟩<;>omega
  simp only[List.length_append];omega
 ·rename_i h2
  obtain⟨_,s2,s3,s4⟩:_∧a2.size≤256∧a3.size≤256∧a4.size≤256:=by
   rcases h with h|⟨h,_⟩|h
   ·exact absurd h h1
   ·exact absurd h h2
   ·exact h
  simp only[List.length_append];omega
theorem conB_isB(c:tyC.I):IsB (conB c):=by obtain⟨a0,a1,a2,a3,a4⟩:=c;exact con5_isB _ _ _ _ _
theorem conB_len{c:tyC.I}(h:fitC c):(conB c).length≤1000:=by obtain⟨a0,a1,a2,a3,a4⟩:=c;exact con5_len h
theorem i64_range{n:Int}(h:(Ty.int .i64).okay n): -9223372036854775808≤n∧n<9223372036854775808:=by
 have h':(Lit.int .i64 n).wf=true:=h;simp only[Lit.wf,Bool.and_eq_true,decide_eq_true_eq,show IntKind.i64.min= -9223372036854775808 from rfl,show IntKind.i64.max=9223372036854775807 from rfl]at h';omega
theorem clPu66: ∀args,(clPu 38).ok args→ ∀h,Con E0 (clPu 38).f args h ((clPu 38).res args) h:=by
 rintro args ⟨bs,n,rfl,hb,hl,h0,h1⟩ h;exact con66 bs n hb hl h0 h1 h
theorem clPu53: ∀args,(clPu 86).ok args→ ∀h,Con E0 (clPu 86).f args h ((clPu 86).res args) h:=by
 rintro args ⟨bs,n,rfl,hb,hl,h0,h1⟩ h;exact con53 bs n hb hl h0 h1 h
theorem clTe94: ∀args,(clTe 68).ok args→ ∀h,Con E0 (clTe 68).f args h ((clTe 68).res args) h:=by
 rintro args ⟨bs,s,rfl,hb,hl⟩ h;exact con94 bs s hb hl h
theorem clTe51: ∀args,(clTe 115).ok args→ ∀h,Con E0 (clTe 115).f args h ((clTe 115).res args) h:=by
 rintro args ⟨bs,s,rfl,hb,hl⟩ h;exact con51 bs s hb hl h
theorem noF_te: ∀args,noF (resTe args)=true:=by
 intro args;unfold resTe
 split<;>rfl
theorem okPu_of{bs:List AV}{n:Int}(hb:IsB bs)(hl:bs.length≤2000000)(h: -9223372036854775808≤n∧n<9223372036854775808):okPu [.lst 1 bs .open_, .int .i64 n]:=⟨bs,n,rfl,hb,by omega,h.1,h.2⟩
theorem okTe_of{bs:List AV}{s:ByteArray}(hb:IsB bs)(hl:bs.length≤2000000)(h:s.size≤256):okTe [.lst 1 bs .open_, .str s]:=⟨bs,s,rfl,hb,by omega⟩
theorem ok68:CallOK X68.E X68.calls:=by
 intro f args h r h' hc;have hc':((if f==81 then callsRun [(81,XN 81 [4,6,9],Tryz.f81,bodyOf Tryz.f81)] f args h else callsBy [clPu 38,clTe 68] f args h):T (AV×H)).run= .ok (r,h'):=hc;split at hc'
 ·exact callsRun_ok (X:={E:=E0,f:=56,con:=fun _=>false,split:=fun _=>false,call:=callsRun [(81,XN 81 [4,6,9],Tryz.f81,bodyOf Tryz.f81)]}) rfl (fun r hr=>by
   obtain rfl:=List.mem_singleton.1 hr
   exact⟨g0,noCalls fun _ _ _=>rfl,rfl,Tryz.func81,rfl,rfl⟩) f args h r h' hc'
 ·exact callsBy_ok (X:=XC 56 [] [clPu 38,clTe 68]) rfl (fun c hc=>by
   rcases List.mem_cons.1 hc with rfl|hc
   ·exact clPu66
   ·obtain rfl:=List.mem_singleton.1 hc
    exact clTe94) f args h r h' hc'
theorem lay_raw(bs:List AV)(a0 a1:Int)(a2 a3 a4:ByteArray)(hb:IsB bs)(hl:bs.length≤1000000)(r0: -9223372036854775808≤a0∧a0<9223372036854775808)(r1: -9223372036854775808≤a1∧a1<9223372036854775808)(hf:fit5 a0 a2 a3 a4)(h:H):
  Con E0 56 [.lst 1 bs .open_, .agg [.int .i64 a0, .int .i64 a1, .str a2, .str a3, .str a4]] h (.lst 1 (bs++con5 a0 a1 a2 a3 a4) .open_) h:=by
 have n0:=numB_len a0
 have t2:=txB_len a2
 have t3:=txB_len a3
 have b0:=hb.append (numB_isB a0)
 have b2:=b0.append (txB_isB a2)
 have b3:=b2.append (txB_isB a3)
 have k0:=okPu_of hb (by omega) r0
 have hr:(runV X68 (fun _=>none) Tryz.f56 (bodyOf Tryz.f56) [.lst 1 bs .open_, .agg [.int .i64 a0, .int .i64 a1, .str a2, .str a3, .str a4]]).run= .ok (.lst 1 (bs++con5 a0 a1 a2 a3 a4) .open_):=by
  rw[p68]
  rcases hf with h1|⟨h23,s2⟩|⟨h45,s2,s3,s4⟩
  ·have e:bs++con5 a0 a1 a2 a3 a4=bs++numB a0++numB a1:=by unfold con5;rw[if_pos h1,List.append_assoc]
   rw[e];exact bA (bT (decide_eq_true h1) (bA rfl (okPu_of b0 (by simp only[List.length_append];omega) r1))) k0
  ·have h1: ¬a0=1:=by omega
   have e:bs++con5 a0 a1 a2 a3 a4=bs++numB a0++txB a2:=by unfold con5;rw[if_neg h1,if_pos h23,List.append_assoc]
   have k2:okTe [.lst 1 (bs++numB a0) .open_, .str a2]:=okTe_of b0 (by simp only[List.length_append];omega) s2;rw[e];refine bA (bF (decide_eq_false h1) (bF (decide_eq_false h1) ?_)) k0
   by_cases h2:a0=2
   ·exact bT (decide_eq_true h2) (bT rfl (bT rfl (bA (bF rfl rfl) k2)))
   ·exact bF (decide_eq_false h2) (bT (decide_eq_true (by omega)) (bT rfl (bT rfl (bA (bF rfl rfl) k2))))
  ·have h1: ¬a0=1:=by omega
   have h2: ¬a0=2:=by omega
   have h3: ¬a0=3:=by omega
   have e:bs++con5 a0 a1 a2 a3 a4=bs++numB a0++txB a2++txB a3++txB a4:=by unfold con5;rw[if_neg h1,if_neg (fun h=>h.elim h2 h3)];simp only[List.append_assoc]
   have k2:okTe [.lst 1 (bs++numB a0) .open_, .str a2]:=okTe_of b0 (by simp only[List.length_append];omega) s2;have k3:okTe [.lst 1 (bs++numB a0++txB a2) .open_, .str a3]:=okTe_of b2 (by simp only[List.length_append];omega) s3;have k4:okTe [.lst 1 (bs++numB a0++txB a2++txB a3) .open_, .str a4]:=okTe_of b3 (by simp only[List.length_append];omega) s4;rw[e];refine bA (bF (decide_eq_false h1) (bF (decide_eq_false h1) (bF (decide_eq_false h2) (bF (decide_eq_false h3) ?_)))) k0
   by_cases h4:a0=4
   ·exact bT (decide_eq_true h4) (bT rfl (bT rfl (bA (bT rfl (bT rfl (bA (bT rfl (bT rfl (bA (bF rfl rfl) k4))) k3))) k2)))
   ·exact bF (decide_eq_false h4) (bT (decide_eq_true (by omega)) (bT rfl (bT rfl (bA (bT rfl (bT rfl (bA (bT rfl (bT rfl (bA (bF rfl rfl) k4))) k3))) k2))))
 exact Con.pureV (X:=X68) g0 noG0 ok68 (fn:=Tryz.f56) Tryz.func56 (c:=bodyOf Tryz.f56) rfl rfl (args:= [.lst 1 bs .open_, .agg [.int .i64 a0, .int .i64 a1, .str a2, .str a3, .str a4]]) KOK.none (refs2 hb rfl) hr (Le.refl _) (refB (hb.append (con5_isB _ _ _ _ _))) h
theorem gL:Ground EL:=⟨fun t h=>by simpa [EL,E0]using h,lightC_ok rfl (fun c hc args ha h=>by
 obtain rfl:=List.mem_singleton.1 hc
 exact Con.env (E:=E0) (E':=EL) rfl rfl (clTe51 args ha h)) (fun c hc=>by
 obtain rfl:=List.mem_singleton.1 hc
 exact noF_te),bok_none (fun _=>rfl),by kernel_rfl⟩
theorem ok88:CallOK X88.E X88.calls:=callsBy_ok rfl fun c hc args ha h=>Con.env (E:=E0) (E':=EL) rfl rfl (by
 rcases List.mem_cons.1 hc with rfl|hc
 ·exact clG61 args ha h
 rcases List.mem_cons.1 hc with rfl|hc
 ·exact clPu53 args ha h
 ·obtain rfl:=List.mem_singleton.1 hc
  exact clTe51 args ha h)
theorem put_raw(bs:List AV)(a0 a1:Int)(a2 a3 a4:ByteArray)(hb:IsB bs)(hl:bs.length≤1000000)(hc:tyC.okay (a0,a1,a2,a3,a4))(h:H):
  Con E0 87 [.lst 1 bs .open_,tyC.elem (a0,a1,a2,a3,a4)] h (match goodC (a0,a1,a2,a3,a4)with
   |true=> .tup [.lst 1 (bs++con5 a0 a1 a2 a3 a4) .open_, .int .i64 0]
   |false=> .tup [.lst 1 [] .open_, .int .i64 11]) h:=by
 have r0: -9223372036854775808≤a0∧a0<9223372036854775808:=i64_range hc.1;have r1: -9223372036854775808≤a1∧a1<9223372036854775808:=i64_range hc.2.1
 have hsp:=(goodC_sp (a0,a1,a2,a3,a4) hc).2.2
 have hg:goodA [.agg [.int .i64 a0, .int .i64 a1, .str a2, .str a3, .str a4]]=goodC (a0,a1,a2,a3,a4):=goodA_eq (a0,a1,a2,a3,a4);have kg:okE1 tyC [.agg [.int .i64 a0, .int .i64 a1, .str a2, .str a3, .str a4]]:=⟨(a0,a1,a2,a3,a4),rfl,hc⟩
 have n0:=numB_len a0
 have t2:=txB_len a2
 have t3:=txB_len a3
 have b0:=hb.append (numB_isB a0)
 have b2:=b0.append (txB_isB a2)
 have b3:=b2.append (txB_isB a3)
 have k0:=okPu_of hb (by omega) r0
 have fin: ∀{v r:AV},(runV X88 (fun _=>none) Tryz.f87 (bodyOf Tryz.f87) [.lst 1 bs .open_, .agg [.int .i64 a0, .int .i64 a1, .str a2, .str a3, .str a4]]).run= .ok v→Le v r→noRef r=true→Con E0 87 [.lst 1 bs .open_,tyC.elem (a0,a1,a2,a3,a4)] h r h:=fun hr hl hn=>
  Con.env (E:=EL) rfl rfl (Con.pureV (X:=X88) gL noG0 ok88 (fn:=Tryz.f87) Tryz.func87 (c:=bodyOf Tryz.f87) rfl rfl (args:= [.lst 1 bs .open_, .agg [.int .i64 a0, .int .i64 a1, .str a2, .str a3, .str a4]]) KOK.none (refs2 hb rfl) hr hl hn h)
 cases hq:goodC (a0,a1,a2,a3,a4)with
 |false=>
  refine fin (v:= .tup [.nils, .int .i64 11]) ?_ (Le.tup (.cons (Le.nils nofun) (.cons (Le.refl _) .nil))) rfl
  rw[p88,hg,hq];exact bA (bT rfl rfl) kg
 |true=>
  have hrf:noRef (.tup [.lst 1 (bs++con5 a0 a1 a2 a3 a4) .open_, .int .i64 0])=true:=by
   have:=refB (hb.append (con5_isB a0 a1 a2 a3 a4))
   simp only[noRef,noRefs,Bool.and_true]at this ⊢
   rw[this]
  refine fin (v:= .tup [.lst 1 (bs++con5 a0 a1 a2 a3 a4) .open_, .int .i64 0]) ?_ (Le.refl _) hrf
  rw[p88,hg,hq];refine bA (bF rfl (bA ?_ k0)) kg
  have hT: ∀{b:List AV} {s:ByteArray} {t f:T AV} {x:R AV},okTe [.lst 1 b .open_, .str s]→t.run=x→(T.br (askQ okTe [.lst 1 b .open_, .str s]) (T.br (askL EL 115 [.lst 1 b .open_, .str s] (.lst 1 (b++txB s) .open_)) t f) f).run=x:=fun hk ht=>
   bA (bL (cs:=csL) (c:=clTe 115) rfl rfl hk rfl rfl ht) hk
  rcases hsp hq with h1|⟨h23,s2⟩|⟨h45,s2,s3,s4⟩
  ·have e:bs++con5 a0 a1 a2 a3 a4=bs++numB a0++numB a1:=by unfold con5;rw[if_pos h1,List.append_assoc]
   rw[e];exact bT (decide_eq_true h1) (bA rfl (okPu_of b0 (by simp only[List.length_append];omega) r1))
  ·have h1: ¬a0=1:=by omega
   have e:bs++con5 a0 a1 a2 a3 a4=bs++numB a0++txB a2:=by unfold con5;rw[if_neg h1,if_pos h23,List.append_assoc]
   have k2:okTe [.lst 1 (bs++numB a0) .open_, .str a2]:=okTe_of b0 (by simp only[List.length_append];omega) s2;rw[e]
   refine bF (decide_eq_false h1) ?_
   by_cases h2:a0=2
   ·exact bT (decide_eq_true h2) (hT k2 rfl)
   ·exact bF (decide_eq_false h2) (bT (decide_eq_true (by omega)) (hT k2 rfl))
  ·have h1: ¬a0=1:=by omega
   have h2: ¬a0=2:=by omega
   have h3: ¬a0=3:=by omega
   have e:bs++con5 a0 a1 a2 a3 a4=bs++numB a0++txB a2++txB a3++txB a4:=by unfold con5;rw[if_neg h1,if_neg (fun h=>h.elim h2 h3)];simp only[List.append_assoc]
   have k2:okTe [.lst 1 (bs++numB a0) .open_, .str a2]:=okTe_of b0 (by simp only[List.length_append];omega) s2;have k3:okTe [.lst 1 (bs++numB a0++txB a2) .open_, .str a3]:=okTe_of b2 (by simp only[List.length_append];omega) s3;have k4:okTe [.lst 1 (bs++numB a0++txB a2++txB a3) .open_, .str a4]:=okTe_of b3 (by simp only[List.length_append];omega) s4;rw[e];exact bF (decide_eq_false h1) (bF (decide_eq_false h2) (bF (decide_eq_false h3) (hT k2 (hT k3 (hT k4 rfl)))))
def enc2(p:List AV×tyC.I):List AV:= [.lst 1 p.1 .open_,tyC.elem p.2]
theorem enc2_inj(x y:List AV×tyC.I)(h:enc2 x=enc2 y):x=y:=by
 obtain⟨a,b⟩:=x;obtain⟨c,d⟩:=y;simp only[enc2,List.cons.injEq,AV.lst.injEq,true_and,and_true]at h;rw[h.1,Ty.elem_inj h.2]
noncomputable def layA:List AV→List AV:=pick [] enc2 fun p=>p.1++conB p.2
noncomputable def putQ:List AV→List AV:=pick [] enc2 fun p=>match goodC p.2 with
 |true=>p.1++conB p.2
 |false=> []
def okLay(args:List AV):Prop:= ∃(bs:List AV) (c:tyC.I),args= [.lst 1 bs .open_,tyC.elem c]∧IsB bs∧bs.length≤1000000∧tyC.okay c∧fitC c
def okR3(args:List AV):Prop:= ∃(bs:List AV) (c:tyC.I),args= [.lst 1 bs .open_,tyC.elem c]∧IsB bs∧bs.length≤1000000∧tyC.okay c
noncomputable def clY:Cl:=⟨56,okLay,fun args=> .lst 1 (layA args) .open_⟩
noncomputable def clQ:Cl:=⟨87,okR3,fun args=> .tup [.lst 1 (putQ args) .open_, .int .i64 (match goodA (args.drop 1)with|true=>0|false=>11)]⟩
theorem layA_eq(bs:List AV)(c:tyC.I):layA [.lst 1 bs .open_,tyC.elem c]=bs++conB c:=pick_eq enc2_inj (bs,c)
theorem putA_eq(bs:List AV)(c:tyC.I):putQ [.lst 1 bs .open_,tyC.elem c]=(match goodC c with|true=>bs++conB c|false=> []):=pick_eq enc2_inj (bs,c)
theorem clY68: ∀args,clY.ok args→ ∀h,Con E0 clY.f args h (clY.res args) h:=by
 rintro args ⟨bs,c,rfl,hb,hl,hc,hf⟩ h;show Con E0 56 _ h (.lst 1 (layA [.lst 1 bs .open_,tyC.elem c]) .open_) h;rw[layA_eq];obtain⟨a0,a1,a2,a3,a4⟩:=c;exact lay_raw bs a0 a1 a2 a3 a4 hb hl (i64_range hc.1) (i64_range hc.2.1) hf h
theorem clQ88: ∀args,clQ.ok args→ ∀h,Con E0 clQ.f args h (clQ.res args) h:=by
 rintro args ⟨bs,c,rfl,hb,hl,hc⟩ h;show Con E0 87 _ h (.tup [.lst 1 (putQ [.lst 1 bs .open_,tyC.elem c]) .open_, .int .i64 (match goodA [tyC.elem c]with|true=>0|false=>11)]) h;rw[putA_eq,goodA_eq];obtain⟨a0,a1,a2,a3,a4⟩:=c;have:=put_raw bs a0 a1 a2 a3 a4 hb hl hc h
 cases hq:goodC (a0,a1,a2,a3,a4)with
 |true=>rw [hq]at this;exact this
 |false=>rw [hq]at this;exact this
end Go.Proofs.YtaooangghieljaaGreatDoor.AM
