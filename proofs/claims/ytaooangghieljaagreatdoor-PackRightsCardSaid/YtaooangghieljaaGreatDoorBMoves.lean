-- SQUEEZED
/- Moves of bundles, by the program; whether a bundle can be, by the program. -/
import Derived.Test.YtaooangghieljaaGreatDoorBPool
namespace Go.Proofs.YtaooangghieljaaGreatDoor.AM
open Go Go.Proofs Go.RowKit
set_option linter.unusedVariables false
set_option linter.unusedSimpArgs false
def intSet(ks:List Int):List (AV×AV):=ks.map fun k=>(AV.int .i64 k,AV.bool true)
theorem ints_find{P:Program}{S:TypeId→Bool}{kt:TypeId}{ik:IntKind}(hu:P.underlying kt=some (.int ik))(n:Int): ∀ks:List Int,
  (n∈ks→ ∃i,find (eqT P S 99 kt) (.int .i64 n) (intSet ks)=some (some (i, .bool true)))∧(n∉ks→find (eqT P S 99 kt) (.int .i64 n) (intSet ks)=some none)
 | []=>⟨(fun h=>nomatch h),fun _=>rfl⟩
 |a::l=>by
  obtain⟨h1,h2⟩:=ints_find (S:=S) hu n l
  have he:eqT P S 99 kt (.int .i64 n) (.int .i64 a)=some (n==a):=by simp only[eqT,hu];rfl
  have hs:find (eqT P S 99 kt) (.int .i64 n) (intSet (a::l))=match(some (n==a):Option Bool)with
   |some true=>some (some (0, .bool true))
   |some false=>(find (eqT P S 99 kt) (.int .i64 n) (intSet l)).map fun r=>r.map fun(i,v)=>(i+1,v)
   |none=>none:=by
   show(match eqT P S 99 kt (.int .i64 n) (.int .i64 a)with
    |some true=>_
    |some false=>_
    |none=>_)=_
   rw[he];rfl
  by_cases hn:n=a
  ·have hb:(n==a)=true:=by simpa using hn
   rw[hs,hb];exact⟨fun _=>⟨0,rfl⟩,fun h=>absurd (List.mem_cons.2 (.inl hn)) h⟩
  ·have hb:(n==a)=false:=by simpa using hn
   rw[hs,hb];refine⟨fun h=>?_,fun h=>?_⟩
   ·obtain⟨i,hi⟩:=h1 ((List.mem_cons.1 h).resolve_left hn)
    exact⟨i+1,by rw[hi];rfl⟩
   ·rw[h2 fun hh=>h (List.mem_cons.2 (.inr hh))];rfl
theorem ints_in{P:Program}{S:TypeId→Bool}{kt:TypeId}{ik:IntKind}(hu:P.underlying kt=some (.int ik)){n:Int}{ks:List Int}(h:n∈ks):findB P S kt (.int .i64 n) (intSet ks)=true∧findS P S kt (.int .i64 n) (intSet ks)=true∧findV P S kt (.int .i64 n) (intSet ks)= .bool true:=by
 obtain⟨i,hi⟩:=(ints_find (S:=S) hu n ks).1 h;unfold findB findS findV;rw[hi];exact⟨rfl,rfl,rfl⟩
theorem ints_out{P:Program}{S:TypeId→Bool}{kt:TypeId}{ik:IntKind}(hu:P.underlying kt=some (.int ik)){n:Int}{ks:List Int}(h:n∉ks):findB P S kt (.int .i64 n) (intSet ks)=false∧findS P S kt (.int .i64 n) (intSet ks)=true:=by
 have hi:=(ints_find (S:=S) hu n ks).2 h;unfold findB findS;rw[hi];exact⟨rfl,rfl⟩
abbrev tyV:Ty:= .pair .str (.pair (.int .i64) (.pair .str (.slice tyI)))
abbrev tyT:Ty:= .pair .str (.pair (.slice tyC) (.slice tyV))
abbrev tyB:Ty:= .pair (.slice tyK) (.slice tyT)
def leanI:List Int:= [0,1,3,4,45,8,9,10,11,12,13,14,15,16,17,18,19,20]
noncomputable def leanL:List (AV×AV):=intSet leanI
def hm82(es:List (AV×AV)):H:= [.map es, .tail, .var [.map 0]]
noncomputable def X132:SX:={E:=E0,f:=132,con:=fun _=>false,split:=fun d=> [9,16].contains d,call:=callsRun [(111,XN 111 [],Tryz.f111,bodyOf Tryz.f111)]}
noncomputable def st132(L:List tyI.I)(j:Nat):List (Nat×AV):= [(0,encL tyI L),(1, .clo 111 [] [.ptr 2 0]),(7, .int .i64 (((L.map tyI.elem).length:Nat):Int)),(8, .int .i64 j)]
theorem p132(es:List (AV×AV))(L:List tyI.I)(m i:Int):obsK X132 (fun _=>none) 19 (sub (bodyOf Tryz.f132) [1,0,1,0,0]) [1,0,1,0,0] (frm [(0,encL tyI L),(1, .clo 111 [] [.ptr 2 0]),(7, .int .i64 m),(8, .int .i64 i)]) (hm82 es) [0,1,4,7,8]=
 ((fun(s0:T (X×List AV×H))=>((fun(s1:T (X×List AV×H))=>(T.br (decide (i<m)) (T.br (decide ((0:Int)≤i)&&decide (i<(↑(List.map tyI.elem L).length:Int))&&fitsC Tryz.prog (61:Nat) ((List.map tyI.elem L).getD i.toNat undef)) (T.br (findB Tryz.prog E0.S (3:Nat) (AV.int IntKind.i64 (((List.map tyI.elem L).getD i.toNat undef).cells.getD 0 undef).toI) es) (T.br (findS
 Tryz.prog E0.S (3:Nat) (AV.int IntKind.i64 (((List.map tyI.elem L).getD i.toNat undef).cells.getD 0 undef).toI) es&&(!aggB Tryz.prog (4:Nat)&&fits1 Tryz.prog (4:Nat) (findV Tryz.prog E0.S (3:Nat) (AV.int IntKind.i64 (((List.map tyI.elem L).getD i.toNat undef).cells.getD 0 undef).toI) es))) (T.br (!(findV Tryz.prog E0.S (3:Nat) (AV.int IntKind.i64 (((List.map tyI.elem L).getD i.toNat
 undef).cells.getD 0 undef).toI) es).toB) s0 s1) T.fail) (T.br (findS Tryz.prog E0.S (3:Nat) (AV.int IntKind.i64 (((List.map tyI.elem L).getD i.toNat undef).cells.getD 0 undef).toI) es) (T.br true s0 s1) T.fail)) T.fail) (T.leaf ((X.exit 0,[AV.lst 2 (List.map tyI.elem L) Tl.open_,AV.clo 111 [] [AV.ptr 2 0],AV.fsl 0 [],AV.int IntKind.i64 m,AV.int IntKind.i64 i],[Blk.map es,Blk.tail,Blk.var
 [AV.map 0]]))))) (T.leaf ((X.normal,[AV.lst 2 (List.map tyI.elem L) Tl.open_,AV.clo 111 [] [AV.ptr 2 0],AV.fsl 0 [],AV.int IntKind.i64 m,AV.int IntKind.i64 (IntKind.i64.wrap (i+1))],[Blk.map es,Blk.tail,Blk.var [AV.map 0],Blk.var [AV.int IntKind.i64 (((List.map tyI.elem L).getD i.toNat undef).cells.getD 0 undef).toI,AV.int IntKind.i64 (((List.map tyI.elem L).getD i.toNat
 undef).cells.getD 1 undef).toI]]))))) (T.leaf ((X.ret,[AV.lst 2 (List.map tyI.elem L) Tl.open_,AV.clo 111 [] [AV.ptr 2 0],AV.int IntKind.i64 i,AV.int IntKind.i64 m,AV.int IntKind.i64 i],[Blk.map es,Blk.tail,Blk.var [AV.map 0],Blk.var [AV.int IntKind.i64 (((List.map tyI.elem L).getD i.toNat undef).cells.getD 0 undef).toI,AV.int IntKind.i64 (((List.map tyI.elem L).getD i.toNat
 undef).cells.getD 1 undef).toI]])))):=by kernel_rfl
theorem p132s(es:List (AV×AV))(L:List tyI.I)(i:Nat):runF X132 (kAt [1,0,1] (st132 L 0) (hm82 es) .ret [(4, .int .i64 i)] (hm82 es)) Tryz.f132 (bodyOf Tryz.f132) [encL tyI L, .clo 111 [] [.ptr 2 0]] (hm82 es)=
 (T.br (askS [AV.lst 2 (List.map tyI.elem L) Tl.open_,AV.clo (111:Nat) [] [AV.ptr 2 (0:Nat)],AV.int IntKind.i64 (↑(List.map tyI.elem L).length:Int),AV.int IntKind.i64 (0:Int)] [AV.lst 2 (List.map tyI.elem L) Tl.open_,AV.clo (111:Nat) [] [AV.ptr 2 (0:Nat)],AV.int IntKind.i64 (↑(List.map tyI.elem L).length:Int),AV.int IntKind.i64 (↑(0:Nat):Int)] [Blk.map es,Blk.tail,Blk.var
 [AV.map 0]] [Blk.map es,Blk.tail,Blk.var [AV.map 0]]) (T.leaf ((AV.int IntKind.i64 (↑i:Int),[Blk.map es,Blk.tail,Blk.var [AV.map 0]]))) T.fail):=by kernel_rfl
theorem p132n(es:List (AV×AV))(L:List tyI.I):runF X132 (kAt [1,0,1] (st132 L 0) (hm82 es) .normal (st132 L L.length) (hm82 es)) Tryz.f132 (bodyOf Tryz.f132) [encL tyI L, .clo 111 [] [.ptr 2 0]] (hm82 es)=
 (T.br (askS [AV.lst 2 (List.map tyI.elem L) Tl.open_,AV.clo (111:Nat) [] [AV.ptr 2 (0:Nat)],AV.int IntKind.i64 (↑(List.map tyI.elem L).length:Int),AV.int IntKind.i64 (0:Int)] [AV.lst 2 (List.map tyI.elem L) Tl.open_,AV.clo (111:Nat) [] [AV.ptr 2 (0:Nat)],AV.int IntKind.i64 (↑(List.map tyI.elem L).length:Int),AV.int IntKind.i64 (↑(0:Nat):Int)] [Blk.map es,Blk.tail,Blk.var
 [AV.map 0]] [Blk.map es,Blk.tail,Blk.var [AV.map 0]]) (T.leaf ((AV.int IntKind.i64 (-1),[Blk.map es,Blk.tail,Blk.var [AV.map 0]]))) T.fail):=by kernel_rfl
noncomputable def X107(es:List (AV×AV))(L:List tyI.I)(r:Int):SX:={E:=E0,f:=107,con:=fun _=>false,split:=fun _=>false,call:=callsH [⟨132,[encL tyI L, .clo 111 [] [.ptr 2 0]],(hm82 es), .int .i64 r,(hm82 es)⟩]}
noncomputable def X82(L:List tyI.I)(C:List tyC.I)(p e:Int)(b:Bool):SX:={E:=E0,f:=82,con:=fun _=>false,split:=fun d=> [15,20].contains d,call:=fun f args h=>if f=106 then callsBy [⟨106,fun a=>a= [encL tyI L,encL tyC C, .int .i64 0],fun _=> .tup [.int .i64 p, .int .i64 e]⟩] f args h else if f=110 then(acall E0 400 110 args h).t else callsH [⟨107,[encL tyI L, .clo 111 [] [.ptr 2 0]],(hm82 leanL), .bool b,(hm82 leanL)⟩] f args h}
theorem p107(es:List (AV×AV))(L:List tyI.I)(r:Int):runF (X107 es L r) (fun _=>none) Tryz.f107 (bodyOf Tryz.f107) [encL tyI L, .clo 111 [] [.ptr 2 0]] (hm82 es)=
 (T.br (askS [AV.lst 2 (List.map tyI.elem L) Tl.open_,AV.clo (111:Nat) [] [AV.ptr 2 (0:Nat)]] [AV.lst 2 (List.map tyI.elem L) Tl.open_,AV.clo (111:Nat) [] [AV.ptr 2 (0:Nat)]] [Blk.map es,Blk.tail,Blk.var [AV.map 0]] [Blk.map es,Blk.tail,Blk.var [AV.map 0]]) (T.leaf ((AV.bool (decide (0≤r)),[Blk.map es,Blk.tail,Blk.var [AV.map 0]]))) T.fail):=by kernel_rfl
theorem p82(L:List tyI.I)(C:List tyC.I)(p e:Int)(b:Bool):runV (X82 L C p e b) (fun _=>none) Tryz.f82 (bodyOf Tryz.f82) [encL tyI L,encL tyC C]=
 (T.br (askQ (fun a=>a= [encL tyI L,encL tyC C,AV.int IntKind.i64 (0:Int)]) [AV.lst 2 (List.map tyI.elem L) Tl.open_,AV.lst 5 (List.map tyC.elem C) Tl.open_,AV.int IntKind.i64 (0:Int)]) (T.br (!decide (e=(0:Int))) (T.leaf (AV.int IntKind.i64 e)) (T.br (askS [AV.lst 2 (List.map tyI.elem L) Tl.open_,AV.clo (111:Nat) [] [AV.ptr 2 (0:Nat)]] [AV.lst 2 (List.map tyI.elem L) Tl.open_,
 AV.clo (111:Nat) [] [AV.ptr 2 (0:Nat)]] [Blk.map [(AV.int IntKind.i64 (0:Int),AV.bool true),(AV.int IntKind.i64 (1:Int),AV.bool true),(AV.int IntKind.i64 (3:Int),AV.bool true),(AV.int IntKind.i64 (4:Int),AV.bool true),(AV.int IntKind.i64 (45:Int),AV.bool true),(AV.int IntKind.i64 (8:Int),AV.bool true),(AV.int IntKind.i64 (9:Int),AV.bool true),(AV.int IntKind.i64 (10
 :Int),AV.bool true),(AV.int IntKind.i64 (11:Int),AV.bool true),(AV.int IntKind.i64 (12:Int),AV.bool true),(AV.int IntKind.i64 (13:Int),AV.bool true),(AV.int IntKind.i64 (14:Int),AV.bool true),(AV.int IntKind.i64 (15:Int),AV.bool true),(AV.int IntKind.i64 (16:Int),AV.bool true),(AV.int IntKind.i64 (17:Int),AV.bool true),(AV.int IntKind.i64 (18:Int),AV.bool true),
 (AV.int IntKind.i64 (19:Int),AV.bool true),(AV.int IntKind.i64 (20:Int),AV.bool true)],Blk.tail,Blk.var [AV.map 0]] [Blk.map [(AV.int IntKind.i64 (0:Int),AV.bool true),(AV.int IntKind.i64 (1:Int),AV.bool true),(AV.int IntKind.i64 (3:Int),AV.bool true),(AV.int IntKind.i64 (4:Int),AV.bool true),(AV.int IntKind.i64 (45:Int),AV.bool true),(AV.int IntKind.i64 (8:Int),
 AV.bool true),(AV.int IntKind.i64 (9:Int),AV.bool true),(AV.int IntKind.i64 (10:Int),AV.bool true),(AV.int IntKind.i64 (11:Int),AV.bool true),(AV.int IntKind.i64 (12:Int),AV.bool true),(AV.int IntKind.i64 (13:Int),AV.bool true),(AV.int IntKind.i64 (14:Int),AV.bool true),(AV.int IntKind.i64 (15:Int),AV.bool true),(AV.int IntKind.i64 (16:Int),AV.bool true),(AV.int
 IntKind.i64 (17:Int),AV.bool true),(AV.int IntKind.i64 (18:Int),AV.bool true),(AV.int IntKind.i64 (19:Int),AV.bool true),(AV.int IntKind.i64 (20:Int),AV.bool true)],Blk.tail,Blk.var [AV.map 0]]) (T.br (b) (T.leaf (AV.int IntKind.i64 12)) (T.leaf (AV.int IntKind.i64 0))) T.fail)) T.fail):=by kernel_rfl
def opI(x:tyI.I):Int:=((tyI.elem x).cells.getD 0 undef).toI
def badV(L:List tyI.I)(j:Nat):Prop:=opI (L.getD j tyI.zero)∉leanI
theorem calls132:CallOK X132.E X132.calls:=callsRun_ok rfl fun r hr=>by
 obtain rfl:=List.mem_singleton.1 hr;exact⟨g0,noCalls fun _ _ _=>rfl,rfl,Tryz.func111,rfl,rfl⟩
theorem fx82: ∀x,x∈hm82 leanL→fxB 3 x:=by
 intro x hx;simp only[hm82,List.mem_cons,List.not_mem_nil,or_false]at hx
 rcases hx with rfl|rfl|rfl
 ·refine⟨nofun,fun m=>?_⟩
  simp only[renB,leanL,intSet,List.map_map]
  congr 1
 ·exact⟨nofun,fun _=>rfl⟩
 ·exact⟨nofun,fun _=>rfl⟩
theorem con132(L:List tyI.I)(hl:L.length<1000000000000000):Con E0 132 [encL tyI L, .clo 111 [] [.ptr 2 0]] (hm82 leanL) (.int .i64 (placeOf (firstI (badV L) L.length))) (hm82 leanL):=by
 have f0:fitsC Tryz.prog 61 (tyI.elem tyI.zero)=true:=by kernel_rfl
 have hu:Tryz.prog.underlying 3=some (.int .i64):=Tryz.underlying3
 have hag:(!aggB Tryz.prog 4&&fits1 Tryz.prog 4 (AV.bool true))=true:=by kernel_rfl
 have hS:(askS
 [AV.lst (2:Nat) (List.map tyI.elem L) Tl.open_,AV.clo (111:Nat) [] [AV.ptr (2:Nat) (0:Nat)],
  AV.int IntKind.i64 (↑(List.map tyI.elem L).length:Int),AV.int IntKind.i64 (0:Int)]
 [AV.lst (2:Nat) (List.map tyI.elem L) Tl.open_,AV.clo (111:Nat) [] [AV.ptr (2:Nat) (0:Nat)],
  AV.int IntKind.i64 (↑(List.map tyI.elem L).length:Int),AV.int IntKind.i64 (↑(0:Nat):Int)]
 [Blk.map leanL,Blk.tail,Blk.var [AV.map (0:Nat)]] [Blk.map leanL,Blk.tail,Blk.var [AV.map (0:Nat)]])=true:=askS_self _ _
 exact find_fnH (X:=X132) g0 calls132 (fn:=Tryz.f132) Tryz.func132 (c:=bodyOf Tryz.f132) rfl rfl (N:=19) rfl [1,0,1] (id:=0) (c0:=sub (bodyOf Tryz.f132) [1,0,1,0,0]) rfl (p:=badV L) (n:=L.length) (st:=st132 L) (rt:=fun j=> [(4, .int .i64 j)])
  (fun j hj hp=>by
   have ht:=p132 leanL L (((L.map tyI.elem).length:Nat):Int) j
   obtain⟨q1,q2,q3⟩:=ints_in (S:=E0.S) hu (Classical.not_not.1 hp);rw[idx_ok hj f0,lt_ok hj,Int.toNat_natCast,getD_elem hj,wrap_next (by omega)]at ht;have q1':findB Tryz.prog E0.S 3 (.int .i64 ((tyI.elem (L.getD j tyI.zero)).cells.getD 0 undef).toI) leanL=true:=q1;have q2':findS Tryz.prog E0.S 3 (.int .i64 ((tyI.elem (L.getD j tyI.zero)).cells.getD 0 undef).toI) leanL=true:=q2;have q3':findV Tryz.prog E0.S 3 (.int .i64 ((tyI.elem (L.getD j tyI.zero)).cells.getD 0 undef).toI) leanL= .bool true:=q3;rw[q1',q2',q3',hag]at ht
   exact Tri.seenX (extra:= [.var _]) g0 noG0 calls132 (congrArg T.run ht) (Nat.le_refl _) fx82 (by
    intro q hq;simp only[st132,List.mem_cons,List.not_mem_nil,or_false]at hq
    rcases hq with rfl|rfl|rfl|rfl
    ·exact⟨rfl,fx_L,rfl⟩
    all_goals exact⟨rfl,fun _=>rfl,rfl⟩))
  (fun j hj hp=>by
   have ht:=p132 leanL L (((L.map tyI.elem).length:Nat):Int) j
   obtain⟨q1,q2⟩:=ints_out (S:=E0.S) hu hp;rw[idx_ok hj f0,lt_ok hj,Int.toNat_natCast,getD_elem hj]at ht;have q1':findB Tryz.prog E0.S 3 (.int .i64 ((tyI.elem (L.getD j tyI.zero)).cells.getD 0 undef).toI) leanL=false:=q1;have q2':findS Tryz.prog E0.S 3 (.int .i64 ((tyI.elem (L.getD j tyI.zero)).cells.getD 0 undef).toI) leanL=true:=q2;rw[q1',q2']at ht
   exact Tri.seenX (extra:= [.var _]) g0 noG0 calls132 (congrArg T.run ht) (Nat.le_refl _) fx82 (by
    intro q hq;obtain rfl:=List.mem_singleton.1 hq
    exact⟨rfl,fun _=>rfl,rfl⟩))
  (by
   have ht:=p132 leanL L (((L.map tyI.elem).length:Nat):Int) L.length
   rw[lt_no]at ht
   exact Tri.seenX (extra:= []) g0 noG0 calls132 (congrArg T.run ht) (Nat.le_refl _) fx82 (by
    intro q hq;simp only[st132,List.mem_cons,List.not_mem_nil,or_false]at hq
    rcases hq with rfl|rfl|rfl|rfl
    ·exact⟨rfl,fx_L,rfl⟩
    all_goals exact⟨rfl,fun _=>rfl,rfl⟩))
  (fun i hi=>by rw[hi];exact(congrArg T.run (p132s leanL L i)).trans (bT hS rfl)) (fun hi=>by rw[hi];exact(congrArg T.run (p132n leanL L)).trans (bT hS rfl))
noncomputable def codeV(C:List tyC.I)(L:List tyI.I):Int:=if(checkR L C 0).2≠0 then(checkR L C 0).2 else match firstI (badV L) L.length with
 |some _=>12
 |none=>0
theorem con82(L:List tyI.I)(C:List tyC.I)(hl:L.length<1000000000000000)(h:H):Con E0 82 [encL tyI L,encL tyC C] h (.int .i64 (codeV C L)) h:=by
 have hn:noRefs [encL tyI L,encL tyC C]=true:=by simp only[noRefs,encL_noRef,Bool.and_true]
 obtain⟨r,hr⟩: ∃r:Int,r=placeOf (firstI (badV L) L.length):=⟨_,rfl⟩
 have h132:Con E0 132 [encL tyI L, .clo 111 [] [.ptr 2 0]] (hm82 leanL) (.int .i64 r) (hm82 leanL):=by
  rw[hr];exact con132 L hl
 have h107:Con E0 107 [encL tyI L, .clo 111 [] [.ptr 2 0]] (hm82 leanL) (.bool (decide (0≤r))) (hm82 leanL):=
  Con.of_run (X:=X107 leanL L r) g0 (callsH_ok rfl fun c hc=>by obtain rfl:=List.mem_singleton.1 hc;exact h132) (fn:=Tryz.f107) Tryz.func107 (c:=bodyOf Tryz.f107) rfl rfl KOK.none ((congrArg T.run (p107 leanL L r)).trans (bT (askS_self _ _) rfl))
 obtain⟨p,hp⟩: ∃p,p=(checkR L C 0).1:=⟨_,rfl⟩;obtain⟨e,he⟩: ∃e,e=(checkR L C 0).2:=⟨_,rfl⟩
 have hcall:CallOK (X82 L C p e (decide (0≤r))).E (X82 L C p e (decide (0≤r))).calls:=by
  intro f args m v m' hc;have hc':(if f=106 then callsBy [⟨106,fun a=>a= [encL tyI L,encL tyC C, .int .i64 0],fun _=> .tup [.int .i64 p, .int .i64 e]⟩] f args m else if f=110 then(acall E0 400 110 args m).t else callsH [⟨107,[encL tyI L, .clo 111 [] [.ptr 2 0]],hm82 leanL, .bool (decide (0≤r)),hm82 leanL⟩] f args m).run= .ok (v,m'):=hc;split at hc'
  ·exact callsBy_ok (X:=XC 82 [] [⟨106,fun a=>a= [encL tyI L,encL tyC C, .int .i64 0],fun _=> .tup [.int .i64 p, .int .i64 e]⟩]) rfl (fun c hc args ha h=>by
    obtain rfl:=List.mem_singleton.1 hc;obtain rfl:args=_:=ha;show Con E0 106 _ h (.tup [.int .i64 p, .int .i64 e]) h
    rw[hp,he];exact con102 L C 0 hl h) f args m v m' hc'
  ·rename_i h2
   split at hc'
   ·rename_i h3
    subst h3;exact Con.of_acall g0 (R.t_ok hc')
   ·exact callsH_ok (X:={E:=E0,f:=107,con:=fun _=>false,split:=fun _=>false,call:=callsH [⟨107,[encL tyI L, .clo 111 [] [.ptr 2 0]],hm82 leanL, .bool (decide (0≤r)),hm82 leanL⟩]}) (cs:= [⟨107,[encL tyI L, .clo 111 [] [.ptr 2 0]],hm82 leanL, .bool (decide (0≤r)),hm82 leanL⟩]) rfl (fun c hc=>by
     obtain rfl:=List.mem_singleton.1 hc;exact h107) f args m v m' hc'
 refine Con.pureV (X:=X82 L C p e (decide (0≤r))) g0 noG0 hcall (fn:=Tryz.f82) Tryz.func82 (c:=bodyOf Tryz.f82) rfl rfl (args:= [encL tyI L,encL tyC C]) KOK.none hn ((congrArg T.run (p82 L C p e _)).trans (bA ?_ rfl)) (Le.refl _) rfl h;unfold codeV;rw[←he]
 by_cases h0:e=0
 ·rw[if_neg (fun h=>h h0)]
  refine bF (by rw[decide_eq_true h0];rfl) (bT (askS_self _ _) ?_);rw[hr]
  cases hf:firstI (badV L) L.length with
  |some i=>exact bT (decide_eq_true (by simp only[placeOf];omega)) rfl
  |none=>exact bF (by simp[placeOf]) rfl
 ·rw[if_pos h0]
  exact bT (by rw[decide_eq_false h0];rfl) rfl
noncomputable def X57(C:List tyC.I)(v3:List tyI.I)(c:Int):SX:=XC 57 [7,12,14,18,23,28,33] [clN 52,⟨82,fun a=>a= [encL tyI v3,encL tyC C],fun _=> .int .i64 c⟩]
theorem p57(C:List tyC.I)(v0:ByteArray)(v1:Int)(v2:ByteArray)(v3:List tyI.I)(c:Int):runV (X57 C v3 c) (fun _=>none) Tryz.f57 (bodyOf Tryz.f57) [.agg [.str v0, .int .i64 v1, .str v2,encL tyI v3],encL tyC C]=
 (T.br (decide (v1=(1:Int))) (T.br (askQ (clN (52:FuncId)).2 [AV.str v2]) (T.br (!nmA [AV.str v2]) (T.leaf (AV.int IntKind.i64 7)) (T.br false (T.br true (T.leaf (AV.int IntKind.i64 2)) (T.leaf (AV.int IntKind.i64 0))) (T.br (decide ((0:Int)<(↑(List.map tyI.elem v3).length:Int))) (T.leaf (AV.int IntKind.i64 2)) (T.leaf (AV.int IntKind.i64 0))))) T.fail) (T.br (decide (v1=(2:Int)))
 (T.br (decide (v2={data:={toList:= []}})) (T.br (askQ (fun a=>a= [encL tyI v3,encL tyC C]) [AV.lst 2 (List.map tyI.elem v3) Tl.open_,AV.lst 5 (List.map tyC.elem C) Tl.open_]) (T.leaf (AV.int IntKind.i64 c)) T.fail) (T.br (!decide (v2={data:={toList:= []}})) (T.br true (T.leaf (AV.int IntKind.i64 2)) (T.leaf (AV.int IntKind.i64 0))) (T.br (decide ((0:Int)<(↑(List.map
 tyI.elem v3).length:Int))) (T.leaf (AV.int IntKind.i64 2)) (T.leaf (AV.int IntKind.i64 0))))) (T.br (decide (v1=(0:Int))) (T.br (!decide (v2={data:={toList:= []}})) (T.br true (T.leaf (AV.int IntKind.i64 2)) (T.leaf (AV.int IntKind.i64 0))) (T.br (decide ((0:Int)<(↑(List.map tyI.elem v3).length:Int))) (T.leaf (AV.int IntKind.i64 2)) (T.leaf (AV.int IntKind.i64 0)))) (T.leaf
 (AV.int IntKind.i64 2))))):=by kernel_rfl
theorem p64(op:Int):runV (XN 64 [4]) (fun _=>none) Tryz.f64 (bodyOf Tryz.f64) [.int .i64 op]=
 (T.br (decide (op=(0:Int))) (T.leaf (AV.bool true)) (T.br (decide (op=(1:Int))) (T.leaf (AV.bool true)) (T.br (decide (op=(3:Int))) (T.leaf (AV.bool true)) (T.br (decide (op=(4:Int))) (T.leaf (AV.bool true)) (T.br (decide (op=(45:Int))) (T.leaf (AV.bool true)) (T.br (decide (op=(8:Int))) (T.leaf (AV.bool true)) (T.br (decide (op=(9:Int))) (T.leaf (AV.bool true)) (T.br
 (decide (op=(10:Int))) (T.leaf (AV.bool true)) (T.br (decide (op=(11:Int))) (T.leaf (AV.bool true)) (T.br (decide (op=(12:Int))) (T.leaf (AV.bool true)) (T.br (decide (op=(13:Int))) (T.leaf (AV.bool true)) (T.br (decide (op=(14:Int))) (T.leaf (AV.bool true)) (T.br (decide (op=(15:Int))) (T.leaf (AV.bool true)) (T.br (decide (op=(16:Int))) (T.leaf (AV.bool true)) (T.br
 (decide (op=(17:Int))) (T.leaf (AV.bool true)) (T.br (decide (op=(18:Int))) (T.leaf (AV.bool true)) (T.br (decide (op=(19:Int))) (T.leaf (AV.bool true)) (T.br (decide (op=(20:Int))) (T.leaf (AV.bool true)) (T.leaf (AV.bool false)))))))))))))))))))):=by kernel_rfl
noncomputable def moveK(C:List tyC.I)(v1:Int)(v2:ByteArray)(v3:List tyI.I):Int:=
 if v1=1 then(match nmA [.str v2]with
  |false=>7
  |true=>if 0<v3.length then 2 else 0)
 else if v1=2 then(if v2=⟨⟨[]⟩⟩then codeV C v3 else 2)
 else if v1=0 then(if v2=⟨⟨[]⟩⟩then(if 0<v3.length then 2 else 0)else 2)else 2
theorem con57(C:List tyC.I)(v0:ByteArray)(v1:Int)(v2:ByteArray)(v3:List tyI.I)(hs:v2.size≤140737488351232)(hl:v3.length<1000000000000000)(h:H):Con E0 57 [tyV.elem (v0,v1,v2,v3),encL tyC C] h (.int .i64 (moveK C v1 v2 v3)) h:=by
 have hn:noRefs [tyV.elem (v0,v1,v2,v3),encL tyC C]=true:=by
  have:=noRefs1 tyV (v0,v1,v2,v3)
  simp only[noRefs,Bool.and_true]at this ⊢
  rw[this,encL_noRef];rfl
 obtain⟨c,hc⟩: ∃c,c=codeV C v3:=⟨_,rfl⟩
 have hcall:CallOK (X57 C v3 c).E (X57 C v3 c).calls:=callsBy_ok rfl fun q hq args ha h=>by
  rcases List.mem_cons.1 hq with rfl|hq
  ·exact clN35 args ha h
  ·obtain rfl:=List.mem_singleton.1 hq
   obtain rfl:args=_:=ha;show Con E0 82 _ h (.int .i64 c) h;rw[hc];exact con82 v3 C hl h
 have e3:(v3.map tyI.elem).length=v3.length:=by simp
 refine Con.pureV (X:=X57 C v3 c) g0 noG0 hcall (fn:=Tryz.f57) Tryz.func57 (c:=bodyOf Tryz.f57) rfl rfl (args:= [tyV.elem (v0,v1,v2,v3),encL tyC C]) KOK.none hn (v:= .int .i64 (moveK C v1 v2 v3)) ((congrArg T.run (p57 C v0 v1 v2 v3 c)).trans ?_) (Le.refl _) rfl h;unfold moveK;rw[←hc]
 have tail: ∀{x:R AV},(R.ok (.int .i64 (if 0<v3.length then 2 else 0)):R AV)=x→(T.br (decide ((0:Int)<((v3.map tyI.elem).length:Int))) (T.leaf (AV.int .i64 2)) (T.leaf (AV.int .i64 0))).run=x:=by
  intro x hx
  by_cases h0:0<v3.length
  ·rw[if_pos h0]at hx;exact bT (decide_eq_true (by rw[e3];omega)) hx
  ·rw[if_neg h0]at hx;exact bF (decide_eq_false (by rw[e3];omega)) hx
 by_cases h1:v1=1
 ·rw[if_pos h1]
  refine bT (decide_eq_true h1) (bQ ⟨v2,rfl,hs⟩ ?_)
  cases hq:nmA [AV.str v2]with
  |false=>exact bT rfl rfl
  |true=>exact bF rfl (bF rfl (tail rfl))
 ·rw[if_neg h1]
  refine bF (decide_eq_false h1) ?_
  by_cases h2:v1=2
  ·rw[if_pos h2]
   refine bT (decide_eq_true h2) ?_
   by_cases h3:v2=⟨⟨[]⟩⟩
   ·rw[if_pos h3];exact bT (decide_eq_true h3) (bQ rfl rfl)
   ·rw[if_neg h3];exact bF (decide_eq_false h3) (bT (by rw[decide_eq_false h3];rfl) (bT rfl rfl))
  ·rw[if_neg h2]
   refine bF (decide_eq_false h2) ?_
   by_cases h3:v1=0
   ·rw[if_pos h3]
    refine bT (decide_eq_true h3) ?_
    by_cases h4:v2=⟨⟨[]⟩⟩
    ·rw[if_pos h4];exact bF (by rw[decide_eq_true h4];rfl) (tail rfl)
    ·rw[if_neg h4];exact bT (by rw[decide_eq_false h4];rfl) (bT rfl rfl)
   ·rw[if_neg h3];exact bF (decide_eq_false h3) rfl
theorem con64(op:Int)(h:H):Con E0 64 [.int .i64 op] h (.bool (decide (op∈leanI))) h:=by
 refine Con.pureV (X:=XN 64 [4]) g0 noG0 (noCalls fun _ _ _=>rfl) (fn:=Tryz.f64) Tryz.func64 (c:=bodyOf Tryz.f64) rfl rfl (args:= [.int .i64 op]) KOK.none rfl (v:= .bool (decide (op∈leanI))) ((congrArg T.run (p64 op)).trans ?_) (Le.refl _) rfl h
 have key: ∀(ks:List Int) (t:T AV),(∀k,k∈ks→k∈leanI)→(t.run= .ok (.bool (decide (op∈leanI)))∨op∈ks)→(ks.foldr (fun k t=>T.br (decide (op=k)) (.leaf (.bool true)) t) t).run= .ok (.bool (decide (op∈leanI))):=by
  intro ks t
  induction ks with
  |nil=>intro _ h;exact h.resolve_right (fun h=>nomatch h)
  |cons k ks ih=>
   intro hk h
   by_cases he:op=k
   ·refine bT (decide_eq_true he) ?_
    rw[decide_eq_true (he▸hk k (List.mem_cons_self ..))];rfl
   ·refine bF (decide_eq_false he) (ih (fun x hx=>hk x (List.mem_cons_of_mem _ hx)) ?_)
    rcases h with h|h
    ·exact .inl h
    ·exact .inr ((List.mem_cons.1 h).resolve_left he)
 refine key leanI (.leaf (.bool false)) (fun _ h=>h) ?_
 by_cases hm:op∈leanI
 ·exact .inr hm
 ·left;rw[decide_eq_false hm];rfl
def encVC(p:tyV.I×List tyC.I):List AV:= [tyV.elem p.1,encL tyC p.2]
theorem encVC_inj(x y:tyV.I×List tyC.I)(h:encVC x=encVC y):x=y:=by
 obtain⟨a,b⟩:=x;obtain⟨c,d⟩:=y;simp only[encVC,List.cons.injEq,and_true]at h;rw[Ty.elem_inj h.1,encL_inj h.2]
noncomputable def moveV(C:List tyC.I)(x:tyV.I):Int:=moveK C x.2.1 x.2.2.1 x.2.2.2
noncomputable def moveA:List AV→Int:=pick 0 encVC fun p=>moveV p.2 p.1
theorem moveA_eq(x:tyV.I)(C:List tyC.I):moveA [tyV.elem x,encL tyC C]=moveV C x:=pick_eq encVC_inj (x,C)
def okV(args:List AV):Prop:= ∃(x:tyV.I) (C:List tyC.I),args= [tyV.elem x,encL tyC C]∧tyV.okay x
noncomputable def clV:Cl:=⟨57,okV,fun args=> .int .i64 (moveA args)⟩
theorem clV57: ∀args,clV.ok args→ ∀h,Con E0 clV.f args h (clV.res args) h:=by
 rintro args ⟨x,C,rfl,hx⟩ h;show Con E0 57 _ h (.int .i64 (moveA [tyV.elem x,encL tyC C])) h;rw[moveA_eq];obtain⟨v0,v1,v2,v3⟩:=x;exact con57 C v0 v1 v2 v3 hx.2.2.1 (Nat.lt_of_le_of_lt hx.2.2.2.1 (by decide)) h
def st30(C:List tyC.I)(L:List tyV.I)(j:Nat):List (Nat×AV):= [(1,encL tyC C),(5, .map 0),(13,encL tyV L),(14, .int .i64 (((L.map tyV.elem).length:Nat):Int)),(15, .int .i64 j)]
theorem p30(C:List tyC.I)(L:List tyV.I)(es:List (AV×AV))(m i:Int):obsK (XC 30 [11,16,19,24,33] [clN 52,clV]) (fun _=>none) 39 (sub (bodyOf Tryz.f30) [1,1,1,0,1,0,0]) [1,1,1,0,1,0,0] (frm [(1,encL tyC C),(5, .map 0),(13,encL tyV L),(14, .int .i64 m),(15, .int .i64 i)]) [.map es] [1,4,5,13,14,15]=
 ((fun(s0:T (X×List AV×H))=>((fun(s1:T (X×List AV×H))=>((fun(s2:T (X×List AV×H))=>((fun(s3:T (X×List AV×H))=>((fun(s4:T (X×List AV×H))=>((fun(s5:T (X×List AV×H))=>(T.br (decide (i<m)) (T.br (decide ((0:Int)≤i)&&decide (i<(↑(List.map tyV.elem L).length:Int))&&fitsC Tryz.prog (46:Nat) ((List.map tyV.elem L).getD i.toNat undef))
 (T.br (askQ (clN (52:FuncId)).2 [AV.str (((List.map tyV.elem L).getD i.toNat undef).cells.getD 0 undef).toS]) (T.br (!nmA [AV.str (((List.map tyV.elem L).getD i.toNat undef).cells.getD 0 undef).toS]) (T.leaf ((X.ret,[AV.lst 5 (List.map tyC.elem C) Tl.open_,AV.int IntKind.i64 7,AV.map 0,AV.lst 4 (List.map tyV.elem L) Tl.open_,AV.int IntKind.i64 m,AV.int IntKind.i64 i],[Blk.map es,Blk.var
 [AV.str (((List.map tyV.elem L).getD i.toNat undef).cells.getD 0 undef).toS,AV.int IntKind.i64 (((List.map tyV.elem L).getD i.toNat undef).cells.getD 1 undef).toI,AV.str (((List.map tyV.elem L).getD i.toNat undef).cells.getD 2 undef).toS,AV.lst 2 (((List.map tyV.elem L).getD i.toNat undef).cells.getD 3 undef).toL Tl.open_]]))) (T.br (findB Tryz.prog E0.S (9:Nat) (AV.str (((List.map tyV.elem
 L).getD i.toNat undef).cells.getD 0 undef).toS) es) (T.br (findS Tryz.prog E0.S (9:Nat) (AV.str (((List.map tyV.elem L).getD i.toNat undef).cells.getD 0 undef).toS) es&&(!aggB Tryz.prog (4:Nat)&&fits1 Tryz.prog (4:Nat) (findV Tryz.prog E0.S (9:Nat) (AV.str (((List.map tyV.elem L).getD i.toNat undef).cells.getD 0 undef).toS) es))) (T.br ((findV Tryz.prog E0.S (9:Nat) (AV.str
 (((List.map tyV.elem L).getD i.toNat undef).cells.getD 0 undef).toS) es).toB) s0 s5) T.fail) (T.br (findS Tryz.prog E0.S (9:Nat) (AV.str (((List.map tyV.elem L).getD i.toNat undef).cells.getD 0 undef).toS) es) (T.br false s0 s5) T.fail))) T.fail) T.fail) (T.leaf ((X.exit 0,[AV.lst 5 (List.map tyC.elem C) Tl.open_,AV.fsl 0 [],AV.map 0,AV.lst 4 (List.map tyV.elem L) Tl.open_,AV.int IntKind.i64
 m,AV.int IntKind.i64 i],[Blk.map es]))))) (T.br (askQ (fun args=> ∃x C,args= [tyV.elem x,encL tyC C]∧tyV.okay x) [AV.agg [AV.str (((List.map tyV.elem L).getD i.toNat undef).cells.getD 0 undef).toS,AV.int IntKind.i64 (((List.map tyV.elem L).getD i.toNat undef).cells.getD 1 undef).toI,AV.str (((List.map tyV.elem L).getD i.toNat undef).cells.getD 2 undef).toS,AV.lst 2 (((List.map tyV.elem
 L).getD i.toNat undef).cells.getD 3 undef).toL Tl.open_],AV.lst 5 (List.map tyC.elem C) Tl.open_]) s4 T.fail))) (T.br (!decide (moveA [AV.agg [AV.str (((List.map tyV.elem L).getD i.toNat undef).cells.getD 0 undef).toS,AV.int IntKind.i64 (((List.map tyV.elem L).getD i.toNat undef).cells.getD 1 undef).toI,AV.str (((List.map tyV.elem L).getD i.toNat undef).cells.getD 2 undef).toS,AV.lst 2
 (((List.map tyV.elem L).getD i.toNat undef).cells.getD 3 undef).toL Tl.open_],AV.lst 5 (List.map tyC.elem C) Tl.open_]=(0:Int))) s3 s2))) (T.leaf ((X.ret,[AV.lst 5 (List.map tyC.elem C) Tl.open_,AV.int IntKind.i64 (moveA [AV.agg [AV.str (((List.map tyV.elem L).getD i.toNat undef).cells.getD 0 undef).toS,AV.int IntKind.i64 (((List.map tyV.elem L).getD i.toNat undef).cells.getD 1 undef).toI,
 AV.str (((List.map tyV.elem L).getD i.toNat undef).cells.getD 2 undef).toS,AV.lst 2 (((List.map tyV.elem L).getD i.toNat undef).cells.getD 3 undef).toL Tl.open_],AV.lst 5 (List.map tyC.elem C) Tl.open_]),AV.map 0,AV.lst 4 (List.map tyV.elem L) Tl.open_,AV.int IntKind.i64 m,AV.int IntKind.i64 i],[Blk.map es,Blk.var [AV.str (((List.map tyV.elem L).getD i.toNat undef).cells.getD 0 undef).toS,
 AV.int IntKind.i64 (((List.map tyV.elem L).getD i.toNat undef).cells.getD 1 undef).toI,AV.str (((List.map tyV.elem L).getD i.toNat undef).cells.getD 2 undef).toS,AV.lst 2 (((List.map tyV.elem L).getD i.toNat undef).cells.getD 3 undef).toL Tl.open_]]))))) (T.br (putOk Tryz.prog E0.S (9:Nat) (AV.str (((List.map tyV.elem L).getD i.toNat undef).cells.getD 0 undef).toS) es) s1 T.fail))) (T.leaf
 ((X.normal,[AV.lst 5 (List.map tyC.elem C) Tl.open_,AV.fsl 0 [],AV.map 0,AV.lst 4 (List.map tyV.elem L) Tl.open_,AV.int IntKind.i64 m,AV.int IntKind.i64 (IntKind.i64.wrap (i+1))],[Blk.map (putM Tryz.prog E0.S 9 (AV.str (((List.map tyV.elem L).getD i.toNat undef).cells.getD 0 undef).toS) (AV.bool true) es),Blk.var [AV.str (((List.map tyV.elem L).getD i.toNat undef).cells.getD 0 undef).toS,
 AV.int IntKind.i64 (((List.map tyV.elem L).getD i.toNat undef).cells.getD 1 undef).toI,AV.str (((List.map tyV.elem L).getD i.toNat undef).cells.getD 2 undef).toS,AV.lst 2 (((List.map tyV.elem L).getD i.toNat undef).cells.getD 3 undef).toL Tl.open_]]))))) (T.leaf ((X.ret,[AV.lst 5 (List.map tyC.elem C) Tl.open_,AV.int IntKind.i64 8,AV.map 0,AV.lst 4 (List.map tyV.elem L) Tl.open_,AV.int
 IntKind.i64 m,AV.int IntKind.i64 i],[Blk.map es,Blk.var [AV.str (((List.map tyV.elem L).getD i.toNat undef).cells.getD 0 undef).toS,AV.int IntKind.i64 (((List.map tyV.elem L).getD i.toNat undef).cells.getD 1 undef).toI,AV.str (((List.map tyV.elem L).getD i.toNat undef).cells.getD 2 undef).toS,AV.lst 2 (((List.map tyV.elem L).getD i.toNat undef).cells.getD 3 undef).toL Tl.open_]])))):=by kernel_rfl
theorem p30s(C:List tyC.I)(L:List tyV.I)(es:List (AV×AV))(e:Int):runV (XC 30 [11,16,19,24,33] [clN 52,clV]) (kAt [1,1,1,0,1] (st30 C L 0) [.map []] .ret [(4, .int .i64 e)] [.map es]) Tryz.f30 (bodyOf Tryz.f30) [encL tyV L,encL tyC C]=
 (T.br (decide ((16:Int)<(↑(List.map tyV.elem L).length:Int))) (T.leaf (AV.int IntKind.i64 6)) (T.br (askS [AV.lst 5 (List.map tyC.elem C) Tl.open_,AV.map 0,AV.lst 4 (List.map tyV.elem L) Tl.open_,AV.int IntKind.i64 (↑(List.map tyV.elem L).length:Int),AV.int IntKind.i64 (0:Int)] [AV.lst 5 (List.map tyC.elem C) Tl.open_,AV.map 0,AV.lst 4 (List.map tyV.elem L) Tl.open_,AV.int
 IntKind.i64 (↑(List.map tyV.elem L).length:Int),AV.int IntKind.i64 (↑(0:Nat):Int)] [Blk.map []] [Blk.map []]) (T.leaf (AV.int IntKind.i64 e)) T.fail)):=by kernel_rfl
theorem p30n(C:List tyC.I)(L:List tyV.I)(es:List (AV×AV)):runV (XC 30 [11,16,19,24,33] [clN 52,clV]) (kAt [1,1,1,0,1] (st30 C L 0) [.map []] .normal (st30 C L L.length) [.map es]) Tryz.f30 (bodyOf Tryz.f30) [encL tyV L,encL tyC C]=
 (T.br (decide ((16:Int)<(↑(List.map tyV.elem L).length:Int))) (T.leaf (AV.int IntKind.i64 6)) (T.br (askS [AV.lst 5 (List.map tyC.elem C) Tl.open_,AV.map 0,AV.lst 4 (List.map tyV.elem L) Tl.open_,AV.int IntKind.i64 (↑(List.map tyV.elem L).length:Int),AV.int IntKind.i64 (0:Int)] [AV.lst 5 (List.map tyC.elem C) Tl.open_,AV.map 0,AV.lst 4 (List.map tyV.elem L) Tl.open_,AV.int
 IntKind.i64 (↑(List.map tyV.elem L).length:Int),AV.int IntKind.i64 (↑(0:Nat):Int)] [Blk.map []] [Blk.map []]) (T.leaf (AV.int IntKind.i64 0)) T.fail)):=by kernel_rfl
theorem p30x(C:List tyC.I)(L:List tyV.I):runV (XC 30 [11,16,19,24,33] [clN 52,clV]) (kNo [1,1,1,0,1]) Tryz.f30 (bodyOf Tryz.f30) [encL tyV L,encL tyC C]=
 (T.br (decide ((16:Int)<(↑(List.map tyV.elem L).length:Int))) (T.leaf (AV.int IntKind.i64 6)) T.fail):=by kernel_rfl
def nmV(x:tyV.I):ByteArray:=((tyV.elem x).cells.getD 0 undef).toS
noncomputable def moveE(C:List tyC.I)(L:List tyV.I)(j:Nat):Int:=match nmA [.str (nmV (L.getD j tyV.zero))]with
 |false=>7
 |true=>match ask (∃k,k<j∧nmV (L.getD k tyV.zero)=nmV (L.getD j tyV.zero))with
  |true=>8
  |false=>moveA [tyV.elem (L.getD j tyV.zero),encL tyC C]
noncomputable def movesE(C:List tyC.I)(L:List tyV.I):Int:=if 16<L.length then 6 else match firstI (fun j=>moveE C L j≠0) L.length with
 |some i=>moveE C L i
 |none=>0
theorem shape_V(x:tyV.I):AV.agg [AV.str ((tyV.elem x).cells.getD 0 undef).toS,AV.int IntKind.i64 ((tyV.elem x).cells.getD 1 undef).toI,AV.str ((tyV.elem x).cells.getD 2 undef).toS,AV.lst 2 ((tyV.elem x).cells.getD 3 undef).toL .open_]=tyV.elem x:=by
 obtain⟨a0,a1,a2,a3⟩:=x;rfl
theorem calls30:CallOK (XC 30 [11,16,19,24,33] [clN 52,clV]).E (XC 30 [11,16,19,24,33] [clN 52,clV]).calls:=callsBy_ok rfl fun c hc=>by
 rcases List.mem_cons.1 hc with rfl|hc
 ·exact clN35
 ·obtain rfl:=List.mem_singleton.1 hc
  exact clV57
set_option maxRecDepth 100000 in
theorem con30(C:List tyC.I)(L:List tyV.I)(hl:L.length<1000000000000000)(hok: ∀x,x∈L→tyV.okay x)(h:H):Con E0 30 [encL tyV L,encL tyC C] h (.int .i64 (movesE C L)) h:=by
 have hn:noRefs [encL tyV L,encL tyC C]=true:=by simp only[noRefs,encL_noRef,Bool.and_true]
 have hlen:(L.map tyV.elem).length=L.length:=by simp
 have hu:Tryz.prog.underlying 9=some .string:=Tryz.underlying9
 have f0:fitsC Tryz.prog 46 (tyV.elem tyV.zero)=true:=by kernel_rfl
 have hag:(!aggB Tryz.prog 4&&fits1 Tryz.prog 4 (AV.bool true))=true:=by kernel_rfl
 by_cases h8:16<L.length
 ·have hR:movesE C L=6:=if_pos h8
  rw[hR];exact Con.pureV (X:=XC 30 [11,16,19,24,33] [clN 52,clV]) g0 noG0 calls30 (fn:=Tryz.f30) Tryz.func30 (c:=bodyOf Tryz.f30) rfl rfl (args:= [encL tyV L,encL tyC C]) (kNo_ok (p:= [1,1,1,0,1])) hn ((congrArg T.run (p30x C L)).trans (bT (decide_eq_true (by rw[hlen];omega)) rfl)) (Le.refl _) rfl h
 have hmem: ∀j,j<L.length→tyV.okay (L.getD j tyV.zero):=fun j hj=>hok _ (getD_mem hj)
 have hsl: ∀(x:AV) (j:Nat),∀q,q∈st30 C L j→frm ([1,4,5,13,14,15].zip [encL tyC C,x, .map 0,encL tyV L, .int .i64 (((L.map tyV.elem).length:Nat):Int), .int .i64 j]) q.1=q.2∧fx 1 q.2∧isFsl q.2=false:=by
  intro x j q hq;simp only[st30,List.mem_cons,List.not_mem_nil,or_false]at hq
  rcases hq with rfl|rfl|rfl|rfl|rfl
  ·exact⟨rfl,fx_L,rfl⟩
  ·exact⟨rfl,fun _=>rfl,rfl⟩
  ·exact⟨rfl,fx_L,rfl⟩
  ·exact⟨rfl,fun _=>rfl,rfl⟩
  ·exact⟨rfl,fun _=>rfl,rfl⟩
 have hset: ∀l:List ByteArray,∀x,x∈ [Blk.map (setOf l)]→fxB 1 x:=fun l x hx=>by obtain rfl:=List.mem_singleton.1 hx;exact fxB_set l
 have hin: ∀j,j<L.length→((∃k,k<j∧nmV (L.getD k tyV.zero)=nmV (L.getD j tyV.zero))↔nmV (L.getD j tyV.zero)∈upto nmV L j):=fun j hj=>(mem_upto (by omega)).symm
 have hrun: ∀j,j<L.length→ ∃x,(match moveE C L j with
   |0=>(obsK (XC 30 [11,16,19,24,33] [clN 52,clV]) (fun _=>none) 39 (sub (bodyOf Tryz.f30) [1,1,1,0,1,0,0]) [1,1,1,0,1,0,0] (frm (st30 C L j)) [.map (setOf (upto nmV L j))] [1,4,5,13,14,15]).run= .ok (.normal,[encL tyC C, .fsl 0 [], .map 0,encL tyV L, .int .i64 (((L.map tyV.elem).length:Nat):Int), .int .i64 ((j+1:Nat):Int)],[.map (setOf (upto nmV L (j+1))),x])
   |e=>(obsK (XC 30 [11,16,19,24,33] [clN 52,clV]) (fun _=>none) 39 (sub (bodyOf Tryz.f30) [1,1,1,0,1,0,0]) [1,1,1,0,1,0,0] (frm (st30 C L j)) [.map (setOf (upto nmV L j))] [1,4,5,13,14,15]).run= .ok (.ret,[encL tyC C, .int .i64 e, .map 0,encL tyV L, .int .i64 (((L.map tyV.elem).length:Nat):Int), .int .i64 j],[.map (setOf (upto nmV L j)),x])):=fun j hj=>by
  have ht:=p30 C L (setOf (upto nmV L j)) (((L.map tyV.elem).length:Nat):Int) j
  have q1:askQ (clN 52).2 [AV.str ((tyV.elem (L.getD j tyV.zero)).cells.getD 0 undef).toS]=true:=by
   have:=hmem j hj;obtain⟨⟨x0,x1,x2,x3⟩,hx⟩: ∃x:tyV.I,L.getD j tyV.zero=x:=⟨_,rfl⟩
   rw[hx]at this ⊢
   exact ask_true ⟨x0,rfl,this.1⟩
  have q2:askQ (fun args=> ∃(x:tyV.I) (C:List tyC.I),args= [tyV.elem x,encL tyC C]∧tyV.okay x) [tyV.elem (L.getD j tyV.zero),AV.lst 5 (List.map tyC.elem C) Tl.open_]=true:=ask_true ⟨_,C,rfl,hmem j hj⟩;have k0:moveA [tyV.elem (L.getD j tyV.zero),AV.lst 5 (List.map tyC.elem C) Tl.open_]=moveA [tyV.elem (L.getD j tyV.zero),encL tyC C]:=rfl;rw[idx_ok hj f0,lt_ok hj,Int.toNat_natCast,getD_elem hj,wrap_next (by omega),shape_V,q1,q2,k0]at ht;unfold moveE;have n1:nmA [AV.str (nmV (L.getD j tyV.zero))]=nmA [AV.str ((tyV.elem (L.getD j tyV.zero)).cells.getD 0 undef).toS]:=rfl
  rw[n1]
  cases ha:ask (∃k,k<j∧nmV (L.getD k tyV.zero)=nmV (L.getD j tyV.zero))with
  |true=>
   obtain⟨s1,s2,s3⟩:=set_in (S:=E0.S) (P:=Tryz.prog) hu ((hin j hj).1 (ask_of ha));have s1':findB Tryz.prog E0.S 9 (.str ((tyV.elem (L.getD j tyV.zero)).cells.getD 0 undef).toS) (setOf (upto nmV L j))=true:=s1;have s2':findS Tryz.prog E0.S 9 (.str ((tyV.elem (L.getD j tyV.zero)).cells.getD 0 undef).toS) (setOf (upto nmV L j))=true:=s2;have s3':findV Tryz.prog E0.S 9 (.str ((tyV.elem (L.getD j tyV.zero)).cells.getD 0 undef).toS) (setOf (upto nmV L j))= .bool true:=s3;rw[s1',s2',s3',hag]at ht
   generalize nmA [AV.str ((tyV.elem (L.getD j tyV.zero)).cells.getD 0 undef).toS]=c1 at ht ⊢
   cases c1<;>exact⟨_,congrArg T.run ht⟩
  |false=>
   have hni:nmV (L.getD j tyV.zero)∉upto nmV L j:=fun hi=>by rw[ask_true ((hin j hj).2 hi)]at ha;cases ha
   obtain⟨s1,s2,s3,s4⟩:=set_out (S:=E0.S) hu hni;have s1':findB Tryz.prog E0.S 9 (.str ((tyV.elem (L.getD j tyV.zero)).cells.getD 0 undef).toS) (setOf (upto nmV L j))=false:=s1;have s2':findS Tryz.prog E0.S 9 (.str ((tyV.elem (L.getD j tyV.zero)).cells.getD 0 undef).toS) (setOf (upto nmV L j))=true:=s2;have s3':putOk Tryz.prog E0.S 9 (.str ((tyV.elem (L.getD j tyV.zero)).cells.getD 0 undef).toS) (setOf (upto nmV L j))=true:=s3
   have s4':putM Tryz.prog E0.S 9 (.str ((tyV.elem (L.getD j tyV.zero)).cells.getD 0 undef).toS) (.bool true) (setOf (upto nmV L j))=setOf (upto nmV L (j+1)):=by rw[upto_next nmV L j tyV.zero hj];exact s4
   rw[s1',s2',s3',s4']at ht
   generalize nmA [AV.str ((tyV.elem (L.getD j tyV.zero)).cells.getD 0 undef).toS]=c1 at ht ⊢
   generalize moveA [tyV.elem (L.getD j tyV.zero),encL tyC C]=e at ht ⊢
   cases c1 with
   |false=>exact⟨_,congrArg T.run ht⟩
   |true=>
    by_cases h0:e=0
    ·subst h0
     exact⟨_,congrArg T.run ht⟩
    ·rw[decide_eq_false h0]at ht
     show∃x,(match e with
      |0=>_
      |e=>_)
     split
     ·exact absurd rfl h0
     ·exact⟨_,congrArg T.run ht⟩
 have hS:(askS
 [AV.lst (5:Nat) (List.map tyC.elem C) Tl.open_,AV.map (0:Nat),AV.lst (4:Nat) (List.map tyV.elem L) Tl.open_,
  AV.int IntKind.i64 (↑(List.map tyV.elem L).length:Int),AV.int IntKind.i64 (0:Int)]
 [AV.lst (5:Nat) (List.map tyC.elem C) Tl.open_,AV.map (0:Nat),AV.lst (4:Nat) (List.map tyV.elem L) Tl.open_,
  AV.int IntKind.i64 (↑(List.map tyV.elem L).length:Int),AV.int IntKind.i64 (↑(0:Nat):Int)]
 [Blk.map []] [Blk.map []])=true:=askS_self _ _
 have hR:movesE C L=match firstI (fun j=>moveE C L j≠0) L.length with
    |some i=>moveE C L i
    |none=>0:=if_neg h8
 have hl16:decide ((16:Int)<((L.map tyV.elem).length:Int))=false:=decide_eq_false (by rw[hlen];omega);rw[hR]
 exact find_fn (X:=XC 30 [11,16,19,24,33] [clN 52,clV]) g0 noG0 calls30 (fn:=Tryz.f30) Tryz.func30 (c:=bodyOf Tryz.f30) rfl rfl (args:= [encL tyV L,encL tyC C]) hn (N:=39) rfl [1,1,1,0,1] (id:=0) (c0:=sub (bodyOf Tryz.f30) [1,1,1,0,1,0,0]) rfl (p:=fun j=>moveE C L j≠0) (n:=L.length) (st:=st30 C L) (hm:=fun j=> [.map (setOf (upto nmV L j))]) (hr:=fun j=> [.map (setOf (upto nmV L j))]) (rt:=fun j=> [(4, .int .i64 (moveE C L j))])
  (fun j hj _ hp=>by
   have hp:moveE C L j=0:=Classical.not_not.1 hp;obtain⟨x,hr⟩:=hrun j hj;split at hr
   ·exact Tri.seenX (extra:= [x]) g0 noG0 calls30 hr (Nat.zero_le _) (hset _) (hsl _ _)
   ·rename_i h0;exact absurd hp h0)
  (fun j hj _ hp=>by
   obtain⟨x,hr⟩:=hrun j hj;split at hr
   ·rename_i h0;exact absurd h0 hp
   ·exact Tri.seenX (extra:= [x]) g0 noG0 calls30 hr (Nat.zero_le _) (hset _) (fun q hq=>by obtain rfl:=List.mem_singleton.1 hq;exact⟨rfl,fun _=>rfl,rfl⟩))
  (by
   have ht:=p30 C L (setOf (upto nmV L L.length)) (((L.map tyV.elem).length:Nat):Int) L.length
   rw[lt_no]at ht
   exact Tri.seenX (extra:= []) g0 noG0 calls30 (congrArg T.run ht) (Nat.zero_le _) (hset _) (hsl _ _))
  (by cases firstI (fun j=>moveE C L j≠0) L.length<;>rfl) (fun i hi=>by rw[hi];exact(congrArg T.run (p30s C L _ _)).trans (bF hl16 (bT hS rfl))) (fun hi=>by rw[hi];exact(congrArg T.run (p30n C L _)).trans (bF hl16 (bT hS rfl))) h
noncomputable def rightX:tyK.I→Int:=fun(a0,a1,a2,a3,a4)=>rightE a0 a1 a2 a3 a4
noncomputable def rightQ:List AV→Int:=pick 0 (fun x:tyK.I=> [tyK.elem x]) rightX
noncomputable def clRt(f:FuncId):Cl:=⟨f,okE1 tyK,fun args=> .int .i64 (rightQ args)⟩
def okN1(args:List AV):Prop:= ∃L:List tyC.I,args= [.nils,encL tyC L]∧L.length<1000000000000000∧ ∀x,x∈L→tyC.okay x
noncomputable def poolA:List AV→Int:=pick 0 (fun L:List tyC.I=> [.nils,encL tyC L]) poolE
noncomputable def poolB:List AV→List AV:=pick [] (fun L:List tyC.I=> [.nils,encL tyC L]) poolL
noncomputable def clP:Cl:=⟨29,okN1,fun args=> .tup [.lst 1 (poolB args) .open_, .int .i64 (poolA args)]⟩
def okMv(args:List AV):Prop:= ∃(L:List tyV.I) (C:List tyC.I),args= [encL tyV L,encL tyC C]∧L.length<1000000000000000∧ ∀x,x∈L→tyV.okay x
def encVL(p:List tyV.I×List tyC.I):List AV:= [encL tyV p.1,encL tyC p.2]
noncomputable def movesA:List AV→Int:=pick 0 encVL fun p=>movesE p.2 p.1
noncomputable def clM:Cl:=⟨30,okMv,fun args=> .int .i64 (movesA args)⟩
noncomputable def cs9:List Cl:= [clRt 28,clP,clM]
def st9a(L:List tyK.I)(j:Nat):List (Nat×AV):= [(1, .ptr 0 0),(3, .map 1),(19,encL tyK L),(20, .int .i64 (((L.map tyK.elem).length:Nat):Int)),(21, .int .i64 j)]
def st9b(L:List tyT.I)(j:Nat):List (Nat×AV):= [(3, .map 1),(7, .map 2),(44,encL tyT L),(45, .int .i64 (((L.map tyT.elem).length:Nat):Int)),(46, .int .i64 j)]
theorem p9a(K:List tyK.I)(L:List tyT.I)(es:List (AV×AV))(m i:Int):obsK (XC 9 [16,22,28,33,41,47,50,56,71,79] cs9) (fun _=>none) 82 (sub (bodyOf Tryz.f9) [1,1,1,0,1,0,0]) [1,1,1,0,1,0,0] (frm [(1, .ptr 0 0),(3, .map 1),(19,encL tyK K),(20, .int .i64 m),(21, .int .i64 i)]) [.var [encL tyK K,encL tyT L], .map es] [1,2,3,19,20,21]=
 ((fun(s0:T (X×List AV×H))=>((fun(s1:T (X×List AV×H))=>((fun(s2:T (X×List AV×H))=>(T.br (decide (i<m)) (T.br (decide ((0:Int)≤i)&&decide (i<(↑(List.map tyK.elem K).length:Int))&&fitsC Tryz.prog (37:Nat) ((List.map tyK.elem K).getD i.toNat undef)) (T.br (askQ (okE1 tyK) [AV.agg [AV.str (((List.map tyK.elem K).getD i.toNat undef).cells.getD 0 undef).toS,
 AV.str (((List.map tyK.elem K).getD i.toNat undef).cells.getD 1 undef).toS,AV.lst 5 (((List.map tyK.elem K).getD i.toNat undef).cells.getD 2 undef).toL Tl.open_,AV.lst 2 (((List.map tyK.elem K).getD i.toNat undef).cells.getD 3 undef).toL Tl.open_,AV.lst 5 (((List.map tyK.elem K).getD i.toNat undef).cells.getD 4 undef).toL Tl.open_]]) (T.br (!decide (rightQ [AV.agg [AV.str (((List.map tyK.elem
 K).getD i.toNat undef).cells.getD 0 undef).toS,AV.str (((List.map tyK.elem K).getD i.toNat undef).cells.getD 1 undef).toS,AV.lst 5 (((List.map tyK.elem K).getD i.toNat undef).cells.getD 2 undef).toL Tl.open_,AV.lst 2 (((List.map tyK.elem K).getD i.toNat undef).cells.getD 3 undef).toL Tl.open_,AV.lst 5 (((List.map tyK.elem K).getD i.toNat undef).cells.getD 4 undef).toL Tl.open_]]=(0:Int)))
 (T.leaf ((X.ret,[AV.ptr 0 0,AV.int IntKind.i64 (rightQ [AV.agg [AV.str (((List.map tyK.elem K).getD i.toNat undef).cells.getD 0 undef).toS,AV.str (((List.map tyK.elem K).getD i.toNat undef).cells.getD 1 undef).toS,AV.lst 5 (((List.map tyK.elem K).getD i.toNat undef).cells.getD 2 undef).toL Tl.open_,AV.lst 2 (((List.map tyK.elem K).getD i.toNat undef).cells.getD 3 undef).toL Tl.open_,AV.lst 5
 (((List.map tyK.elem K).getD i.toNat undef).cells.getD 4 undef).toL Tl.open_]]),AV.map 1,AV.lst 5 (List.map tyK.elem K) Tl.open_,AV.int IntKind.i64 m,AV.int IntKind.i64 i],[Blk.var [AV.lst 5 (List.map tyK.elem K) Tl.open_,AV.lst 3 (List.map tyT.elem L) Tl.open_],Blk.map es,Blk.var [AV.str (((List.map tyK.elem K).getD i.toNat undef).cells.getD 0 undef).toS,AV.str (((List.map tyK.elem
 K).getD i.toNat undef).cells.getD 1 undef).toS,AV.lst 5 (((List.map tyK.elem K).getD i.toNat undef).cells.getD 2 undef).toL Tl.open_,AV.lst 2 (((List.map tyK.elem K).getD i.toNat undef).cells.getD 3 undef).toL Tl.open_,AV.lst 5 (((List.map tyK.elem K).getD i.toNat undef).cells.getD 4 undef).toL Tl.open_]]))) (T.br (findB Tryz.prog E0.S (9:Nat) (AV.str (((List.map tyK.elem K).getD i.toNat
 undef).cells.getD 0 undef).toS) es) (T.br (findS Tryz.prog E0.S (9:Nat) (AV.str (((List.map tyK.elem K).getD i.toNat undef).cells.getD 0 undef).toS) es&&(!aggB Tryz.prog (4:Nat)&&fits1 Tryz.prog (4:Nat) (findV Tryz.prog E0.S (9:Nat) (AV.str (((List.map tyK.elem K).getD i.toNat undef).cells.getD 0 undef).toS) es))) (T.br ((findV Tryz.prog E0.S (9:Nat) (AV.str (((List.map tyK.elem
 K).getD i.toNat undef).cells.getD 0 undef).toS) es).toB) s0 s2) T.fail) (T.br (findS Tryz.prog E0.S (9:Nat) (AV.str (((List.map tyK.elem K).getD i.toNat undef).cells.getD 0 undef).toS) es) (T.br false s0 s2) T.fail))) T.fail) T.fail) (T.leaf ((X.exit 0,[AV.ptr 0 0,AV.fsl 0 [],AV.map 1,AV.lst 5 (List.map tyK.elem K) Tl.open_,AV.int IntKind.i64 m,AV.int IntKind.i64 i],[Blk.var [AV.lst 5
 (List.map tyK.elem K) Tl.open_,AV.lst 3 (List.map tyT.elem L) Tl.open_],Blk.map es]))))) (T.br (putOk Tryz.prog E0.S (9:Nat) (AV.str (((List.map tyK.elem K).getD i.toNat undef).cells.getD 0 undef).toS) es) s1 T.fail))) (T.leaf ((X.normal,[AV.ptr 0 0,AV.fsl 0 [],AV.map 1,AV.lst 5 (List.map tyK.elem K) Tl.open_,AV.int IntKind.i64 m,AV.int IntKind.i64 (IntKind.i64.wrap (i+1))],[Blk.var
 [AV.lst 5 (List.map tyK.elem K) Tl.open_,AV.lst 3 (List.map tyT.elem L) Tl.open_],Blk.map (putM Tryz.prog E0.S 9 (AV.str (((List.map tyK.elem K).getD i.toNat undef).cells.getD 0 undef).toS) (AV.bool true) es),Blk.var [AV.str (((List.map tyK.elem K).getD i.toNat undef).cells.getD 0 undef).toS,AV.str (((List.map tyK.elem K).getD i.toNat undef).cells.getD 1 undef).toS,AV.lst 5 (((List.map
 tyK.elem K).getD i.toNat undef).cells.getD 2 undef).toL Tl.open_,AV.lst 2 (((List.map tyK.elem K).getD i.toNat undef).cells.getD 3 undef).toL Tl.open_,AV.lst 5 (((List.map tyK.elem K).getD i.toNat undef).cells.getD 4 undef).toL Tl.open_]]))))) (T.leaf ((X.ret,[AV.ptr 0 0,AV.int IntKind.i64 8,AV.map 1,AV.lst 5 (List.map tyK.elem K) Tl.open_,AV.int IntKind.i64 m,AV.int IntKind.i64 i],
 [Blk.var [AV.lst 5 (List.map tyK.elem K) Tl.open_,AV.lst 3 (List.map tyT.elem L) Tl.open_],Blk.map es,Blk.var [AV.str (((List.map tyK.elem K).getD i.toNat undef).cells.getD 0 undef).toS,AV.str (((List.map tyK.elem K).getD i.toNat undef).cells.getD 1 undef).toS,AV.lst 5 (((List.map tyK.elem K).getD i.toNat undef).cells.getD 2 undef).toL Tl.open_,AV.lst 2 (((List.map tyK.elem K).getD i.toNat
 undef).cells.getD 3 undef).toL Tl.open_,AV.lst 5 (((List.map tyK.elem K).getD i.toNat undef).cells.getD 4 undef).toL Tl.open_]])))):=by kernel_rfl
theorem p9b(K:List tyK.I)(L:List tyT.I)(es et:List (AV×AV))(m i:Int):obsK (XC 9 [16,22,28,33,41,47,50,56,71,79] cs9) (fun _=>none) 82 (sub (bodyOf Tryz.f9) [1,1,1,1,1,1,0,1,0,0]) [1,1,1,1,1,1,0,1,0,0] (frm [(3, .map 1),(7, .map 2),(44,encL tyT L),(45, .int .i64 m),(46, .int .i64 i)]) [.var [encL tyK K,encL tyT L], .map es, .map et] [2,3,7,44,45,46]=
 ((fun(s0:T (X×List AV×H))=>((fun(s1:T (X×List AV×H))=>((fun(s2:T (X×List AV×H))=>((fun(s3:T (X×List AV×H))=>((fun(s4:T (X×List AV×H))=>((fun(s5:T (X×List AV×H))=>((fun(s6:T (X×List AV×H))=>((fun(s7:T (X×List AV×H))=>((fun(s8:T (X×List AV×H))=>((fun(s9:T (X×List AV×H))=>((fun(s10:T (X×List AV×H))=>
 ((fun(s11:T (X×List AV×H))=>((fun(s12:T (X×List AV×H))=>((fun(s13:T (X×List AV×H))=>(T.br (decide (i<m)) (T.br (decide ((0:Int)≤i)&&decide (i<(↑(List.map tyT.elem L).length:Int))&&fitsC Tryz.prog (44:Nat) ((List.map tyT.elem L).getD i.toNat undef)) (T.br (findB Tryz.prog E0.S (9:Nat) (AV.str (((List.map tyT.elem L).getD i.toNat undef).cells.getD 0
 undef).toS) es) (T.br (findS Tryz.prog E0.S (9:Nat) (AV.str (((List.map tyT.elem L).getD i.toNat undef).cells.getD 0 undef).toS) es&&(!aggB Tryz.prog (4:Nat)&&fits1 Tryz.prog (4:Nat) (findV Tryz.prog E0.S (9:Nat) (AV.str (((List.map tyT.elem L).getD i.toNat undef).cells.getD 0 undef).toS) es))) (T.br (!(findV Tryz.prog E0.S (9:Nat) (AV.str (((List.map tyT.elem L).getD i.toNat
 undef).cells.getD 0 undef).toS) es).toB) s0 s13) T.fail) (T.br (findS Tryz.prog E0.S (9:Nat) (AV.str (((List.map tyT.elem L).getD i.toNat undef).cells.getD 0 undef).toS) es) (T.br true s0 s13) T.fail)) T.fail) (T.leaf ((X.exit 2,[AV.fsl 0 [],AV.map 1,AV.map 2,AV.lst 3 (List.map tyT.elem L) Tl.open_,AV.int IntKind.i64 m,AV.int IntKind.i64 i],[Blk.var [AV.lst 5 (List.map tyK.elem K)
 Tl.open_,AV.lst 3 (List.map tyT.elem L) Tl.open_],Blk.map es,Blk.map et]))))) (T.br (findB Tryz.prog E0.S (9:Nat) (AV.str (((List.map tyT.elem L).getD i.toNat undef).cells.getD 0 undef).toS) et) s12 s11))) (T.br (findS Tryz.prog E0.S (9:Nat) (AV.str (((List.map tyT.elem L).getD i.toNat undef).cells.getD 0 undef).toS) et&&(!aggB Tryz.prog (4:Nat)&&fits1 Tryz.prog (4:Nat) (findV
 Tryz.prog E0.S (9:Nat) (AV.str (((List.map tyT.elem L).getD i.toNat undef).cells.getD 0 undef).toS) et))) s10 T.fail))) (T.br (findS Tryz.prog E0.S (9:Nat) (AV.str (((List.map tyT.elem L).getD i.toNat undef).cells.getD 0 undef).toS) et) (T.br false s1 s9) T.fail))) (T.br ((findV Tryz.prog E0.S (9:Nat) (AV.str (((List.map tyT.elem L).getD i.toNat undef).cells.getD 0 undef).toS) et).toB) s1
 s9))) (T.br (putOk Tryz.prog E0.S (9:Nat) (AV.str (((List.map tyT.elem L).getD i.toNat undef).cells.getD 0 undef).toS) et) s8 T.fail))) (T.br (askQ okN1 [AV.nils,AV.lst 5 (((List.map tyT.elem L).getD i.toNat undef).cells.getD 1 undef).toL Tl.open_]) s7 T.fail))) (T.br (!decide (poolA [AV.nils,AV.lst 5 (((List.map tyT.elem L).getD i.toNat undef).cells.getD 1 undef).toL Tl.open_]=(0:Int))) s3
 s6))) (T.br (askQ okMv [AV.lst 4 (((List.map tyT.elem L).getD i.toNat undef).cells.getD 2 undef).toL Tl.open_,AV.lst 5 (((List.map tyT.elem L).getD i.toNat undef).cells.getD 1 undef).toL Tl.open_]) s5 T.fail))) (T.br (!decide (movesA [AV.lst 4 (((List.map tyT.elem L).getD i.toNat undef).cells.getD 2 undef).toL Tl.open_,AV.lst 5 (((List.map tyT.elem L).getD i.toNat undef).cells.getD 1 undef).toL
 Tl.open_]=(0:Int))) s4 s2))) (T.leaf ((X.ret,[AV.int IntKind.i64 (movesA [AV.lst 4 (((List.map tyT.elem L).getD i.toNat undef).cells.getD 2 undef).toL Tl.open_,AV.lst 5 (((List.map tyT.elem L).getD i.toNat undef).cells.getD 1 undef).toL Tl.open_]),AV.map 1,AV.map 2,AV.lst 3 (List.map tyT.elem L) Tl.open_,AV.int IntKind.i64 m,AV.int IntKind.i64 i],[Blk.var [AV.lst 5 (List.map tyK.elem K)
 Tl.open_,AV.lst 3 (List.map tyT.elem L) Tl.open_],Blk.map es,Blk.map (putM Tryz.prog E0.S 9 (AV.str (((List.map tyT.elem L).getD i.toNat undef).cells.getD 0 undef).toS) (AV.bool true) et),Blk.var [AV.str (((List.map tyT.elem L).getD i.toNat undef).cells.getD 0 undef).toS,AV.lst 5 (((List.map tyT.elem L).getD i.toNat undef).cells.getD 1 undef).toL Tl.open_,AV.lst 4 (((List.map tyT.elem L).getD
 i.toNat undef).cells.getD 2 undef).toL Tl.open_]]))))) (T.leaf ((X.ret,[AV.int IntKind.i64 (poolA [AV.nils,AV.lst 5 (((List.map tyT.elem L).getD i.toNat undef).cells.getD 1 undef).toL Tl.open_]),AV.map 1,AV.map 2,AV.lst 3 (List.map tyT.elem L) Tl.open_,AV.int IntKind.i64 m,AV.int IntKind.i64 i],[Blk.var [AV.lst 5 (List.map tyK.elem K) Tl.open_,AV.lst 3 (List.map tyT.elem L) Tl.open_],
 Blk.map es,Blk.map (putM Tryz.prog E0.S 9 (AV.str (((List.map tyT.elem L).getD i.toNat undef).cells.getD 0 undef).toS) (AV.bool true) et),Blk.var [AV.str (((List.map tyT.elem L).getD i.toNat undef).cells.getD 0 undef).toS,AV.lst 5 (((List.map tyT.elem L).getD i.toNat undef).cells.getD 1 undef).toL Tl.open_,AV.lst 4 (((List.map tyT.elem L).getD i.toNat undef).cells.getD 2 undef).toL
 Tl.open_]]))))) (T.leaf ((X.normal,[AV.fsl 0 [],AV.map 1,AV.map 2,AV.lst 3 (List.map tyT.elem L) Tl.open_,AV.int IntKind.i64 m,AV.int IntKind.i64 (IntKind.i64.wrap (i+1))],[Blk.var [AV.lst 5 (List.map tyK.elem K) Tl.open_,AV.lst 3 (List.map tyT.elem L) Tl.open_],Blk.map es,Blk.map (putM Tryz.prog E0.S 9 (AV.str (((List.map tyT.elem L).getD i.toNat undef).cells.getD 0 undef).toS)
 (AV.bool true) et),Blk.var [AV.str (((List.map tyT.elem L).getD i.toNat undef).cells.getD 0 undef).toS,AV.lst 5 (((List.map tyT.elem L).getD i.toNat undef).cells.getD 1 undef).toL Tl.open_,AV.lst 4 (((List.map tyT.elem L).getD i.toNat undef).cells.getD 2 undef).toL Tl.open_]]))))) (T.leaf ((X.ret,[AV.int IntKind.i64 8,AV.map 1,AV.map 2,AV.lst 3 (List.map tyT.elem L) Tl.open_,AV.int
 IntKind.i64 m,AV.int IntKind.i64 i],[Blk.var [AV.lst 5 (List.map tyK.elem K) Tl.open_,AV.lst 3 (List.map tyT.elem L) Tl.open_],Blk.map es,Blk.map et,Blk.var [AV.str (((List.map tyT.elem L).getD i.toNat undef).cells.getD 0 undef).toS,AV.lst 5 (((List.map tyT.elem L).getD i.toNat undef).cells.getD 1 undef).toL Tl.open_,AV.lst 4 (((List.map tyT.elem L).getD i.toNat undef).cells.getD 2
 undef).toL Tl.open_]]))))) (T.leaf ((X.ret,[AV.int IntKind.i64 9,AV.map 1,AV.map 2,AV.lst 3 (List.map tyT.elem L) Tl.open_,AV.int IntKind.i64 m,AV.int IntKind.i64 i],[Blk.var [AV.lst 5 (List.map tyK.elem K) Tl.open_,AV.lst 3 (List.map tyT.elem L) Tl.open_],Blk.map es,Blk.map et,Blk.var [AV.str (((List.map tyT.elem L).getD i.toNat undef).cells.getD 0 undef).toS,AV.lst 5 (((List.map
 tyT.elem L).getD i.toNat undef).cells.getD 1 undef).toL Tl.open_,AV.lst 4 (((List.map tyT.elem L).getD i.toNat undef).cells.getD 2 undef).toL Tl.open_]])))):=by kernel_rfl
theorem p9r(K:List tyK.I)(L:List tyT.I)(e:Int):runV (XC 9 [16,22,28,33,41,47,50,56,71,79] cs9) (kTwo (kAt [1,1,1,0,1] (st9a K 0) ([.var [encL tyK K,encL tyT L], .map []]) .ret [(2, .int .i64 e)] []) (kNo [1,1,1,1,1,1,0,1])) Tryz.f9 (bodyOf Tryz.f9) [.agg [encL tyK K,encL tyT L]]=
 (T.br (decide ((32:Int)<(↑(List.map tyK.elem K).length:Int))) (T.leaf (AV.int IntKind.i64 6)) (T.br (askS [AV.ptr 0 (0:Nat),AV.map 1,AV.lst 5 (List.map tyK.elem K) Tl.open_,AV.int IntKind.i64 (↑(List.map tyK.elem K).length:Int),AV.int IntKind.i64 (0:Int)] [AV.ptr 0 (0:Nat),AV.map 1,AV.lst 5 (List.map tyK.elem K) Tl.open_,AV.int IntKind.i64 (↑(List.map tyK.elem K).length:Int),
 AV.int IntKind.i64 (↑(0:Nat):Int)] [Blk.var [AV.lst 5 (List.map tyK.elem K) Tl.open_,AV.lst 3 (List.map tyT.elem L) Tl.open_],Blk.map []] [Blk.var [AV.lst 5 (List.map tyK.elem K) Tl.open_,AV.lst 3 (List.map tyT.elem L) Tl.open_],Blk.map []]) (T.leaf (AV.int IntKind.i64 e)) T.fail)):=by kernel_rfl
theorem p9nr(K:List tyK.I)(L:List tyT.I)(es:List (AV×AV))(e:Int):runV (XC 9 [16,22,28,33,41,47,50,56,71,79] cs9) (kTwo (kAt [1,1,1,0,1] (st9a K 0) ([.var [encL tyK K,encL tyT L], .map []]) .normal (st9a K K.length) ([.var [encL tyK K,encL tyT L], .map es])) (kAt [1,1,1,1,1,1,0,1] (st9b L 0) ([.var [encL tyK K,encL tyT L], .map es, .map []]) .ret [(2, .int .i64 e)] [])) Tryz.f9 (bodyOf Tryz.f9) [.agg [encL tyK K,encL tyT L]]=
 (T.br (decide ((32:Int)<(↑(List.map tyK.elem K).length:Int))) (T.leaf (AV.int IntKind.i64 6)) (T.br (askS [AV.ptr 0 (0:Nat),AV.map 1,AV.lst 5 (List.map tyK.elem K) Tl.open_,AV.int IntKind.i64 (↑(List.map tyK.elem K).length:Int),AV.int IntKind.i64 (0:Int)] [AV.ptr 0 (0:Nat),AV.map 1,AV.lst 5 (List.map tyK.elem K) Tl.open_,AV.int IntKind.i64 (↑(List.map tyK.elem K).length:Int),
 AV.int IntKind.i64 (↑(0:Nat):Int)] [Blk.var [AV.lst 5 (List.map tyK.elem K) Tl.open_,AV.lst 3 (List.map tyT.elem L) Tl.open_],Blk.map []] [Blk.var [AV.lst 5 (List.map tyK.elem K) Tl.open_,AV.lst 3 (List.map tyT.elem L) Tl.open_],Blk.map []]) (T.br (decide ((32:Int)<(↑(List.map tyT.elem L).length:Int))) (T.leaf (AV.int IntKind.i64 6)) (T.br (askS [AV.map 1,AV.map 2,AV.lst 3 (List.map
 tyT.elem L) Tl.open_,AV.int IntKind.i64 (↑(List.map tyT.elem L).length:Int),AV.int IntKind.i64 (0:Int)] [AV.map 1,AV.map 2,AV.lst 3 (List.map tyT.elem L) Tl.open_,AV.int IntKind.i64 (↑(List.map tyT.elem L).length:Int),AV.int IntKind.i64 (↑(0:Nat):Int)] [Blk.var [AV.lst 5 (List.map tyK.elem K) Tl.open_,AV.lst 3 (List.map tyT.elem L) Tl.open_],Blk.map es,Blk.map []] [Blk.var
 [AV.lst 5 (List.map tyK.elem K) Tl.open_,AV.lst 3 (List.map tyT.elem L) Tl.open_],Blk.map es,Blk.map []]) (T.leaf (AV.int IntKind.i64 e)) T.fail)) T.fail)):=by kernel_rfl
theorem p9nn(K:List tyK.I)(L:List tyT.I)(es et:List (AV×AV)):runV (XC 9 [16,22,28,33,41,47,50,56,71,79] cs9) (kTwo (kAt [1,1,1,0,1] (st9a K 0) ([.var [encL tyK K,encL tyT L], .map []]) .normal (st9a K K.length) ([.var [encL tyK K,encL tyT L], .map es])) (kAt [1,1,1,1,1,1,0,1] (st9b L 0) ([.var [encL tyK K,encL tyT L], .map es, .map []]) .normal (st9b L L.length) ([.var [encL tyK K,encL tyT L], .map es, .map et]))) Tryz.f9 (bodyOf Tryz.f9) [.agg [encL tyK K,encL tyT L]]=
 (T.br (decide ((32:Int)<(↑(List.map tyK.elem K).length:Int))) (T.leaf (AV.int IntKind.i64 6)) (T.br (askS [AV.ptr 0 (0:Nat),AV.map 1,AV.lst 5 (List.map tyK.elem K) Tl.open_,AV.int IntKind.i64 (↑(List.map tyK.elem K).length:Int),AV.int IntKind.i64 (0:Int)] [AV.ptr 0 (0:Nat),AV.map 1,AV.lst 5 (List.map tyK.elem K) Tl.open_,AV.int IntKind.i64 (↑(List.map tyK.elem K).length:Int),
 AV.int IntKind.i64 (↑(0:Nat):Int)] [Blk.var [AV.lst 5 (List.map tyK.elem K) Tl.open_,AV.lst 3 (List.map tyT.elem L) Tl.open_],Blk.map []] [Blk.var [AV.lst 5 (List.map tyK.elem K) Tl.open_,AV.lst 3 (List.map tyT.elem L) Tl.open_],Blk.map []]) (T.br (decide ((32:Int)<(↑(List.map tyT.elem L).length:Int))) (T.leaf (AV.int IntKind.i64 6)) (T.br (askS [AV.map 1,AV.map 2,AV.lst 3 (List.map
 tyT.elem L) Tl.open_,AV.int IntKind.i64 (↑(List.map tyT.elem L).length:Int),AV.int IntKind.i64 (0:Int)] [AV.map 1,AV.map 2,AV.lst 3 (List.map tyT.elem L) Tl.open_,AV.int IntKind.i64 (↑(List.map tyT.elem L).length:Int),AV.int IntKind.i64 (↑(0:Nat):Int)] [Blk.var [AV.lst 5 (List.map tyK.elem K) Tl.open_,AV.lst 3 (List.map tyT.elem L) Tl.open_],Blk.map es,Blk.map []] [Blk.var
 [AV.lst 5 (List.map tyK.elem K) Tl.open_,AV.lst 3 (List.map tyT.elem L) Tl.open_],Blk.map es,Blk.map []]) (T.leaf (AV.int IntKind.i64 0)) T.fail)) T.fail)):=by kernel_rfl
theorem p9nx(K:List tyK.I)(L:List tyT.I)(es:List (AV×AV)):runV (XC 9 [16,22,28,33,41,47,50,56,71,79] cs9) (kTwo (kAt [1,1,1,0,1] (st9a K 0) ([.var [encL tyK K,encL tyT L], .map []]) .normal (st9a K K.length) ([.var [encL tyK K,encL tyT L], .map es])) (kNo [1,1,1,1,1,1,0,1])) Tryz.f9 (bodyOf Tryz.f9) [.agg [encL tyK K,encL tyT L]]=
 (T.br (decide ((32:Int)<(↑(List.map tyK.elem K).length:Int))) (T.leaf (AV.int IntKind.i64 6)) (T.br (askS [AV.ptr 0 (0:Nat),AV.map 1,AV.lst 5 (List.map tyK.elem K) Tl.open_,AV.int IntKind.i64 (↑(List.map tyK.elem K).length:Int),AV.int IntKind.i64 (0:Int)] [AV.ptr 0 (0:Nat),AV.map 1,AV.lst 5 (List.map tyK.elem K) Tl.open_,AV.int IntKind.i64 (↑(List.map tyK.elem K).length:Int),
 AV.int IntKind.i64 (↑(0:Nat):Int)] [Blk.var [AV.lst 5 (List.map tyK.elem K) Tl.open_,AV.lst 3 (List.map tyT.elem L) Tl.open_],Blk.map []] [Blk.var [AV.lst 5 (List.map tyK.elem K) Tl.open_,AV.lst 3 (List.map tyT.elem L) Tl.open_],Blk.map []]) (T.br (decide ((32:Int)<(↑(List.map tyT.elem L).length:Int))) (T.leaf (AV.int IntKind.i64 6)) T.fail) T.fail)):=by kernel_rfl
theorem p9x(K:List tyK.I)(L:List tyT.I):runV (XC 9 [16,22,28,33,41,47,50,56,71,79] cs9) (kTwo (kNo [1,1,1,0,1]) (kNo [1,1,1,1,1,1,0,1])) Tryz.f9 (bodyOf Tryz.f9) [.agg [encL tyK K,encL tyT L]]=
 (T.br (decide ((32:Int)<(↑(List.map tyK.elem K).length:Int))) (T.leaf (AV.int IntKind.i64 6)) T.fail):=by kernel_rfl
theorem clR28: ∀args,(clRt 28).ok args→ ∀h,Con E0 (clRt 28).f args h ((clRt 28).res args) h:=by
 rintro args ⟨x,rfl,hx⟩ h;have e:rightQ [tyK.elem x]=rightX x:=pick_eq (enc:=fun x:tyK.I=> [tyK.elem x]) (fun x y h=>Ty.elem_inj (List.cons.inj h).1) x;show Con E0 28 _ h (.int .i64 (rightQ [tyK.elem x])) h;rw[e];obtain⟨a0,a1,a2,a3,a4⟩:=x;exact con12 a0 a1 a2 a3 a4 hx h
theorem nilC_inj(x y:List tyC.I)(h: [AV.nils,encL tyC x]= [AV.nils,encL tyC y]):x=y:=by
 simp only[List.cons.injEq,true_and,and_true]at h;exact encL_inj h
theorem poolA_eq(L:List tyC.I):poolA [.nils,encL tyC L]=poolE L:=pick_eq (enc:=fun L:List tyC.I=> [.nils,encL tyC L]) nilC_inj L
theorem clP29: ∀args,clP.ok args→ ∀h,Con E0 clP.f args h (clP.res args) h:=by
 rintro args ⟨L,rfl,hl,hok⟩ h;have e:poolB [.nils,encL tyC L]=poolL L:=pick_eq (enc:=fun L:List tyC.I=> [.nils,encL tyC L]) nilC_inj L;show Con E0 29 _ h (.tup [.lst 1 (poolB [.nils,encL tyC L]) .open_, .int .i64 (poolA [.nils,encL tyC L])]) h;rw[e,poolA_eq];exact nil36 L hl hok h
theorem encVL_inj(x y:List tyV.I×List tyC.I)(h:encVL x=encVL y):x=y:=by
 obtain⟨a,b⟩:=x;obtain⟨c,d⟩:=y;simp only[encVL,List.cons.injEq,and_true]at h;rw[encL_inj h.1,encL_inj h.2]
theorem movesA_eq(L:List tyV.I)(C:List tyC.I):movesA [encL tyV L,encL tyC C]=movesE C L:=pick_eq encVL_inj (L,C)
theorem clM30: ∀args,clM.ok args→ ∀h,Con E0 clM.f args h (clM.res args) h:=by
 rintro args ⟨L,C,rfl,hl,hok⟩ h;show Con E0 30 _ h (.int .i64 (movesA [encL tyV L,encL tyC C])) h;rw[movesA_eq];exact con30 C L hl hok h
theorem calls9:CallOK (XC 9 [16,22,28,33,41,47,50,56,71,79] cs9).E (XC 9 [16,22,28,33,41,47,50,56,71,79] cs9).calls:=callsBy_ok rfl fun c hc=>by
 rcases List.mem_cons.1 hc with rfl|hc
 ·exact clR28
 rcases List.mem_cons.1 hc with rfl|hc
 ·exact clP29
 ·obtain rfl:=List.mem_singleton.1 hc
  exact clM30
def nmK(x:tyK.I):ByteArray:=((tyK.elem x).cells.getD 0 undef).toS
def nmT(x:tyT.I):ByteArray:=((tyT.elem x).cells.getD 0 undef).toS
def csT:tyT.I→List tyC.I:=fun(_,L,_)=>L
def mvT:tyT.I→List tyV.I:=fun(_,_,L)=>L
theorem shape_K(x:tyK.I):AV.agg [AV.str ((tyK.elem x).cells.getD 0 undef).toS,AV.str ((tyK.elem x).cells.getD 1 undef).toS,AV.lst 5 ((tyK.elem x).cells.getD 2 undef).toL .open_,AV.lst 2 ((tyK.elem x).cells.getD 3 undef).toL .open_,AV.lst 5 ((tyK.elem x).cells.getD 4 undef).toL .open_]=tyK.elem x:=by
 obtain⟨a0,a1,a2,a3,a4⟩:=x;rfl
theorem shape_T1(x:tyT.I):AV.lst 5 ((tyT.elem x).cells.getD 1 undef).toL .open_=encL tyC (csT x):=by obtain⟨a0,a1,a2⟩:=x;rfl
theorem shape_T2(x:tyT.I):AV.lst 4 ((tyT.elem x).cells.getD 2 undef).toL .open_=encL tyV (mvT x):=by obtain⟨a0,a1,a2⟩:=x;rfl
noncomputable def clsE(K:List tyK.I)(j:Nat):Int:=if rightX (K.getD j tyK.zero)=0 then(match ask (∃k,k<j∧nmK (K.getD k tyK.zero)=nmK (K.getD j tyK.zero))with
 |true=>8
 |false=>0)else rightX (K.getD j tyK.zero)
noncomputable def turnE(K:List tyK.I)(L:List tyT.I)(j:Nat):Int:=match ask (nmT (L.getD j tyT.zero)∈upto nmK K K.length)with
 |false=>9
 |true=>match ask (∃k,k<j∧nmT (L.getD k tyT.zero)=nmT (L.getD j tyT.zero))with
  |true=>8
  |false=>if poolE (csT (L.getD j tyT.zero))=0 then movesE (csT (L.getD j tyT.zero)) (mvT (L.getD j tyT.zero))else poolE (csT (L.getD j tyT.zero))
noncomputable def bundE(K:List tyK.I)(L:List tyT.I):Int:=if 32<K.length then 6 else match firstI (fun j=>clsE K j≠0) K.length with
 |some i=>clsE K i
 |none=>if 32<L.length then 6 else match firstI (fun j=>turnE K L j≠0) L.length with
  |some i=>turnE K L i
  |none=>0
theorem set_facts{P:Program}{S:TypeId→Bool}{kt:TypeId}(hu:P.underlying kt=some .string)(s:ByteArray)(l:List ByteArray):
  findB P S kt (.str s) (setOf l)=ask (s∈l)∧findS P S kt (.str s) (setOf l)=true∧(s∈l→findV P S kt (.str s) (setOf l)= .bool true)∧(s∉l→putOk P S kt (.str s) (setOf l)=true∧putM P S kt (.str s) (.bool true) (setOf l)=setOf (l++ [s])):=by
 by_cases h:s∈l
 ·obtain⟨h1,h2,h3⟩:=set_in (S:=S) hu h
  exact⟨by rw[h1,ask_true h],h2,fun _=>h3,fun hn=>absurd h hn⟩
 ·obtain⟨h1,h2,h3,h4⟩:=set_out (S:=S) hu h
  exact⟨by rw[h1,ask_false h],h2,fun hi=>absurd hi h,fun _=>⟨h3,h4⟩⟩
theorem fx9{K:List tyK.I}{L:List tyT.I}{n:Nat}:fxB n (.var [encL tyK K,encL tyT L]):=fxB_var fun v hv=>by
 rcases List.mem_cons.1 hv with rfl|hv
 ·exact fx_L
 ·obtain rfl:=List.mem_singleton.1 hv;exact fx_L
def hm9a(K:List tyK.I)(L:List tyT.I)(j:Nat):H:= [.var [encL tyK K,encL tyT L], .map (setOf (upto nmK K j))]
def hm9b(K:List tyK.I)(L:List tyT.I)(j:Nat):H:= [.var [encL tyK K,encL tyT L], .map (setOf (upto nmK K K.length)), .map (setOf (upto nmT L j))]
theorem fx9a{K:List tyK.I}{L:List tyT.I}{j:Nat}: ∀x,x∈hm9a K L j→fxB 2 x:=fun x hx=>by
 simp only[hm9a,List.mem_cons,List.not_mem_nil,or_false]at hx
 rcases hx with rfl|rfl
 ·exact fx9
 ·exact fxB_set _
theorem fx9b{K:List tyK.I}{L:List tyT.I}{j:Nat}: ∀x,x∈hm9b K L j→fxB 3 x:=fun x hx=>by
 simp only[hm9b,List.mem_cons,List.not_mem_nil,or_false]at hx
 rcases hx with rfl|rfl|rfl
 ·exact fx9
 ·exact fxB_set _
 ·exact fxB_set _
theorem sl9a{K:List tyK.I}{x:AV}{j:Nat}: ∀q,q∈st9a K j→frm ([1,2,3,19,20,21].zip [.ptr 0 0,x, .map 1,encL tyK K, .int .i64 (((K.map tyK.elem).length:Nat):Int), .int .i64 j]) q.1=q.2∧fx 2 q.2∧isFsl q.2=false:=by
 intro q hq;simp only[st9a,List.mem_cons,List.not_mem_nil,or_false]at hq
 rcases hq with rfl|rfl|rfl|rfl|rfl
 ·exact⟨rfl,fun _=>rfl,rfl⟩
 ·exact⟨rfl,fun _=>rfl,rfl⟩
 ·exact⟨rfl,fx_L,rfl⟩
 ·exact⟨rfl,fun _=>rfl,rfl⟩
 ·exact⟨rfl,fun _=>rfl,rfl⟩
theorem sl9b{L:List tyT.I}{x:AV}{j:Nat}: ∀q,q∈st9b L j→frm ([2,3,7,44,45,46].zip [x, .map 1, .map 2,encL tyT L, .int .i64 (((L.map tyT.elem).length:Nat):Int), .int .i64 j]) q.1=q.2∧fx 3 q.2∧isFsl q.2=false:=by
 intro q hq;simp only[st9b,List.mem_cons,List.not_mem_nil,or_false]at hq
 rcases hq with rfl|rfl|rfl|rfl|rfl
 ·exact⟨rfl,fun _=>rfl,rfl⟩
 ·exact⟨rfl,fun _=>rfl,rfl⟩
 ·exact⟨rfl,fx_L,rfl⟩
 ·exact⟨rfl,fun _=>rfl,rfl⟩
 ·exact⟨rfl,fun _=>rfl,rfl⟩
theorem ret1{n:Nat}{e:Int}{os:List Nat}{vs:List AV}(h:frm (os.zip vs) 2= .int .i64 e): ∀q,q∈ [(2,AV.int .i64 e)]→frm (os.zip vs) q.1=q.2∧fx n q.2∧isFsl q.2=false:=fun q hq=>by
 obtain rfl:=List.mem_singleton.1 hq;exact⟨h,fun _=>rfl,rfl⟩
theorem fx0: ∀x,x∈([]:H)→fxB 0 x:=nofun
set_option maxRecDepth 100000 in
theorem round9a(K:List tyK.I)(L:List tyT.I)(j:Nat)(hj:j<K.length)(hl:K.length<1000000000000000)(hok: ∀x,x∈K→tyK.okay x):
  (clsE K j=0→Tri E0 82 [] (sub (bodyOf Tryz.f9) [1,1,1,0,1,0,0]) (frm (st9a K j)) (hm9a K L j) .normal (frm (st9a K (j+1))) (hm9a K L (j+1)))∧
  (clsE K j≠0→Tri E0 82 [] (sub (bodyOf Tryz.f9) [1,1,1,0,1,0,0]) (frm (st9a K j)) (hm9a K L j) .ret (frm [(2, .int .i64 (clsE K j))]) []):=by
 have hu:Tryz.prog.underlying 9=some .string:=Tryz.underlying9
 have f0:fitsC Tryz.prog 37 (tyK.elem tyK.zero)=true:=by kernel_rfl
 have hag:(!aggB Tryz.prog 4&&fits1 Tryz.prog 4 (AV.bool true))=true:=by kernel_rfl
 have hx:=hok _ (getD_mem (d:=tyK.zero) hj)
 have ht:=p9a K L (setOf (upto nmK K j)) (((K.map tyK.elem).length:Nat):Int) j
 have q1:askQ (okE1 tyK) [tyK.elem (K.getD j tyK.zero)]=true:=ask_true ⟨_,rfl,hx⟩;have e1:rightQ [tyK.elem (K.getD j tyK.zero)]=rightX (K.getD j tyK.zero):=pick_eq (enc:=fun x:tyK.I=> [tyK.elem x]) (fun x y h=>Ty.elem_inj (List.cons.inj h).1) _;rw[idx_ok hj f0,lt_ok hj,Int.toNat_natCast,getD_elem hj,wrap_next (by omega),shape_K,q1,e1]at ht;have hin:(∃k,k<j∧nmK (K.getD k tyK.zero)=nmK (K.getD j tyK.zero))↔nmK (K.getD j tyK.zero)∈upto nmK K j:=(mem_upto (by omega)).symm;obtain⟨s1,s2,s3,s4⟩:=set_facts (S:=E0.S) hu (nmK (K.getD j tyK.zero)) (upto nmK K j)
 have ha:ask (nmK (K.getD j tyK.zero)∈upto nmK K j)=ask (∃k,k<j∧nmK (K.getD k tyK.zero)=nmK (K.getD j tyK.zero)):=by
  by_cases h:nmK (K.getD j tyK.zero)∈upto nmK K j
  ·rw[ask_true h,ask_true (hin.2 h)]
  ·rw[ask_false h,ask_false fun hh=>h (hin.1 hh)]
 have s1':findB Tryz.prog E0.S 9 (.str ((tyK.elem (K.getD j tyK.zero)).cells.getD 0 undef).toS) (setOf (upto nmK K j))=_:=s1.trans ha;have s2':findS Tryz.prog E0.S 9 (.str ((tyK.elem (K.getD j tyK.zero)).cells.getD 0 undef).toS) (setOf (upto nmK K j))=true:=s2;rw[s1',s2']at ht;unfold clsE
 by_cases h0:rightX (K.getD j tyK.zero)=0
 ·rw[if_pos h0]
  rw[decide_eq_true h0]at ht
  cases hc:ask (∃k,k<j∧nmK (K.getD k tyK.zero)=nmK (K.getD j tyK.zero))with
  |true=>
   have s3':findV Tryz.prog E0.S 9 (.str ((tyK.elem (K.getD j tyK.zero)).cells.getD 0 undef).toS) (setOf (upto nmK K j))= .bool true:=s3 (hin.1 (ask_of hc));rw[hc,s3',hag]at ht;exact⟨fun h=>absurd h (by decide),fun _=>Tri.seenX (extra:= [.var [encL tyK K,encL tyT L], .map (setOf (upto nmK K j)), .var _]) g0 noG0 calls9 (congrArg T.run ht) (Nat.zero_le _) fx0 (ret1 rfl)⟩
  |false=>
   obtain⟨s4,s5⟩:=s4 fun hi=>by rw[ask_true (hin.2 hi)]at hc;cases hc
   have s4':putOk Tryz.prog E0.S 9 (.str ((tyK.elem (K.getD j tyK.zero)).cells.getD 0 undef).toS) (setOf (upto nmK K j))=true:=s4
   have s5':putM Tryz.prog E0.S 9 (.str ((tyK.elem (K.getD j tyK.zero)).cells.getD 0 undef).toS) (.bool true) (setOf (upto nmK K j))=setOf (upto nmK K (j+1)):=by rw[upto_next nmK K j tyK.zero hj];exact s5
   rw[hc,s4',s5']at ht;exact⟨fun _=>Tri.seenX (h':=hm9a K L (j+1)) (extra:= [.var _]) g0 noG0 calls9 (congrArg T.run ht) (Nat.zero_le _) fx9a sl9a,fun h=>absurd rfl h⟩
 ·rw[if_neg h0]
  rw[decide_eq_false h0]at ht;exact⟨fun h=>absurd h h0,fun _=>Tri.seenX (extra:= [.var [encL tyK K,encL tyT L], .map (setOf (upto nmK K j)), .var _]) g0 noG0 calls9 (congrArg T.run ht) (Nat.zero_le _) fx0 (ret1 rfl)⟩
set_option maxRecDepth 100000 in
theorem round9b(K:List tyK.I)(L:List tyT.I)(j:Nat)(hj:j<L.length)(hl:L.length<1000000000000000)(hok: ∀x,x∈L→tyT.okay x):
  (turnE K L j=0→Tri E0 82 [] (sub (bodyOf Tryz.f9) [1,1,1,1,1,1,0,1,0,0]) (frm (st9b L j)) (hm9b K L j) .normal (frm (st9b L (j+1))) (hm9b K L (j+1)))∧
  (turnE K L j≠0→Tri E0 82 [] (sub (bodyOf Tryz.f9) [1,1,1,1,1,1,0,1,0,0]) (frm (st9b L j)) (hm9b K L j) .ret (frm [(2, .int .i64 (turnE K L j))]) []):=by
 have hu:Tryz.prog.underlying 9=some .string:=Tryz.underlying9
 have f0:fitsC Tryz.prog 44 (tyT.elem tyT.zero)=true:=by kernel_rfl
 have hag:(!aggB Tryz.prog 4&&fits1 Tryz.prog 4 (AV.bool true))=true:=by kernel_rfl
 have hx:=hok _ (getD_mem (d:=tyT.zero) hj)
 have ht:=p9b K L (setOf (upto nmK K K.length)) (setOf (upto nmT L j)) (((L.map tyT.elem).length:Nat):Int) j
 have q1:askQ okN1 [.nils,encL tyC (csT (L.getD j tyT.zero))]=true:=ask_true ⟨_,rfl,Nat.lt_of_le_of_lt hx.2.1.1 (by decide),hx.2.1.2⟩;have q2:askQ okMv [encL tyV (mvT (L.getD j tyT.zero)),encL tyC (csT (L.getD j tyT.zero))]=true:=ask_true ⟨_,_,rfl,Nat.lt_of_le_of_lt hx.2.2.1 (by decide),hx.2.2.2⟩;rw[idx_ok hj f0,lt_ok hj,Int.toNat_natCast,getD_elem hj,wrap_next (by omega),shape_T1,shape_T2,q1,q2,poolA_eq,movesA_eq]at ht;have hin:(∃k,k<j∧nmT (L.getD k tyT.zero)=nmT (L.getD j tyT.zero))↔nmT (L.getD j tyT.zero)∈upto nmT L j:=(mem_upto (by omega)).symm
 obtain⟨s1,s2,s3,s4⟩:=set_facts (S:=E0.S) hu (nmT (L.getD j tyT.zero)) (upto nmT L j);obtain⟨t1,t2,t3,_⟩:=set_facts (S:=E0.S) hu (nmT (L.getD j tyT.zero)) (upto nmK K K.length)
 have ha:ask (nmT (L.getD j tyT.zero)∈upto nmT L j)=ask (∃k,k<j∧nmT (L.getD k tyT.zero)=nmT (L.getD j tyT.zero)):=by
  by_cases h:nmT (L.getD j tyT.zero)∈upto nmT L j
  ·rw[ask_true h,ask_true (hin.2 h)]
  ·rw[ask_false h,ask_false fun hh=>h (hin.1 hh)]
 have s1':findB Tryz.prog E0.S 9 (.str ((tyT.elem (L.getD j tyT.zero)).cells.getD 0 undef).toS) (setOf (upto nmT L j))=_:=s1.trans ha;have s2':findS Tryz.prog E0.S 9 (.str ((tyT.elem (L.getD j tyT.zero)).cells.getD 0 undef).toS) (setOf (upto nmT L j))=true:=s2;have t1':findB Tryz.prog E0.S 9 (.str ((tyT.elem (L.getD j tyT.zero)).cells.getD 0 undef).toS) (setOf (upto nmK K K.length))=_:=t1;have t2':findS Tryz.prog E0.S 9 (.str ((tyT.elem (L.getD j tyT.zero)).cells.getD 0 undef).toS) (setOf (upto nmK K K.length))=true:=t2;rw[s1',s2',t1',t2']at ht;unfold turnE
 cases hm:ask (nmT (L.getD j tyT.zero)∈upto nmK K K.length)with
 |false=>
  rw[hm]at ht;exact⟨fun h=>absurd (show(9:Int)=0 from h) (by decide),fun _=>Tri.seenX (extra:= [.var [encL tyK K,encL tyT L], .map (setOf (upto nmK K K.length)), .map (setOf (upto nmT L j)), .var _]) g0 noG0 calls9 (congrArg T.run ht) (Nat.zero_le _) fx0 (ret1 rfl)⟩
 |true=>
  have t3':findV Tryz.prog E0.S 9 (.str ((tyT.elem (L.getD j tyT.zero)).cells.getD 0 undef).toS) (setOf (upto nmK K K.length))= .bool true:=t3 (ask_of hm);rw[hm,t3',hag]at ht
  cases hc:ask (∃k,k<j∧nmT (L.getD k tyT.zero)=nmT (L.getD j tyT.zero))with
  |true=>
   have s3':findV Tryz.prog E0.S 9 (.str ((tyT.elem (L.getD j tyT.zero)).cells.getD 0 undef).toS) (setOf (upto nmT L j))= .bool true:=s3 (hin.1 (ask_of hc));rw[hc,s3']at ht;exact⟨fun h=>absurd (show(8:Int)=0 from h) (by decide),fun _=>Tri.seenX (extra:= [.var [encL tyK K,encL tyT L], .map (setOf (upto nmK K K.length)), .map (setOf (upto nmT L j)), .var _]) g0 noG0 calls9 (congrArg T.run ht) (Nat.zero_le _) fx0 (ret1 rfl)⟩
  |false=>
   obtain⟨s4,s5⟩:=s4 fun hi=>by rw[ask_true (hin.2 hi)]at hc;cases hc
   have s4':putOk Tryz.prog E0.S 9 (.str ((tyT.elem (L.getD j tyT.zero)).cells.getD 0 undef).toS) (setOf (upto nmT L j))=true:=s4
   have s5':putM Tryz.prog E0.S 9 (.str ((tyT.elem (L.getD j tyT.zero)).cells.getD 0 undef).toS) (.bool true) (setOf (upto nmT L j))=setOf (upto nmT L (j+1)):=by rw[upto_next nmT L j tyT.zero hj];exact s5
   rw[hc,s4',s5']at ht
   dsimp only
   by_cases h0:poolE (csT (L.getD j tyT.zero))=0
   ·rw[if_pos h0]
    rw[decide_eq_true h0]at ht
    by_cases h1:movesE (csT (L.getD j tyT.zero)) (mvT (L.getD j tyT.zero))=0
    ·rw[decide_eq_true h1]at ht
     exact⟨fun _=>Tri.seenX (h':=hm9b K L (j+1)) (extra:= [.var _]) g0 noG0 calls9 (congrArg T.run ht) (Nat.zero_le _) fx9b sl9b,fun h=>absurd h1 h⟩
    ·rw[decide_eq_false h1]at ht
     exact⟨fun h=>absurd h h1,fun _=>Tri.seenX (extra:= [.var [encL tyK K,encL tyT L], .map (setOf (upto nmK K K.length)), .map (setOf (upto nmT L (j+1))), .var _]) g0 noG0 calls9 (congrArg T.run ht) (Nat.zero_le _) fx0 (ret1 rfl)⟩
   ·rw[if_neg h0]
    rw[decide_eq_false h0]at ht;exact⟨fun h=>absurd h h0,fun _=>Tri.seenX (extra:= [.var [encL tyK K,encL tyT L], .map (setOf (upto nmK K K.length)), .map (setOf (upto nmT L (j+1))), .var _]) g0 noG0 calls9 (congrArg T.run ht) (Nat.zero_le _) fx0 (ret1 rfl)⟩
set_option maxRecDepth 100000 in
theorem con9(K:List tyK.I)(L:List tyT.I)(hx:tyB.okay (K,L))(h:H):Con E0 9 [tyB.elem (K,L)] h (.int .i64 (bundE K L)) h:=by
 have hn:noRefs [tyB.elem (K,L)]=true:=noRefs1 tyB (K,L);have lK:K.length<1000000000000000:=Nat.lt_of_le_of_lt hx.1.1 (by decide);have lL:L.length<1000000000000000:=Nat.lt_of_le_of_lt hx.2.1 (by decide)
 have eK:(K.map tyK.elem).length=K.length:=by simp
 have eL:(L.map tyT.elem).length=L.length:=by simp
 have fin: ∀{Kn:Known},KOK E0 82 [] (bodyOf Tryz.f9) Kn→(runV (XC 9 [16,22,28,33,41,47,50,56,71,79] cs9) Kn Tryz.f9 (bodyOf Tryz.f9) [tyB.elem (K,L)]).run= .ok (.int .i64 (bundE K L))→Con E0 9 [tyB.elem (K,L)] h (.int .i64 (bundE K L)) h:=fun hk hr=>
  Con.pureV (X:=XC 9 [16,22,28,33,41,47,50,56,71,79] cs9) g0 noG0 calls9 (fn:=Tryz.f9) Tryz.func9 (c:=bodyOf Tryz.f9) rfl rfl (args:= [tyB.elem (K,L)]) hk hn hr (Le.refl _) rfl h
 by_cases c1:32<K.length
 ·have hR:bundE K L=6:=if_pos c1
  rw[hR]at fin ⊢
  exact fin (KOK.two (kNo_ok (p:= [1,1,1,0,1])) (kNo_ok (p:= [1,1,1,1,1,1,0,1]))) ((congrArg T.run (p9x K L)).trans (bT (decide_eq_true (by rw[eK];omega)) rfl))
 have d1:decide ((32:Int)<((K.map tyK.elem).length:Int))=false:=decide_eq_false (by rw[eK];omega)
 obtain⟨a1,a2⟩:=find_roundsR (E:=E0) (N:=82) (h0:= []) (c:=sub (bodyOf Tryz.f9) [1,1,1,0,1,0,0]) (p:=fun j=>clsE K j≠0) (n:=K.length) (st:=st9a K) (hm:=hm9a K L) (hr:=fun _=> []) (rt:=fun j=> [(2, .int .i64 (clsE K j))]) (id:=0)
  (fun j hj _ hp=>(round9a K L j hj lK hx.1.2).1 (Classical.not_not.1 hp)) (fun j hj _ hp=>(round9a K L j hj lK hx.1.2).2 hp)
  (by
   have ht:=p9a K L (setOf (upto nmK K K.length)) (((K.map tyK.elem).length:Nat):Int) K.length
   rw[lt_no]at ht
   exact Tri.seenX (h':=hm9a K L K.length) (extra:= []) g0 noG0 calls9 (congrArg T.run ht) (Nat.zero_le _) fx9a sl9a)
 cases hf:firstI (fun j=>clsE K j≠0) K.length with
 |some i=>
  have hR:bundE K L=clsE K i:=by unfold bundE;rw[if_neg c1,hf]
  rw[hR]at fin ⊢
  exact fin (KOK.two (kAt_ok (p:= [1,1,1,0,1]) (a1 i hf)) (kNo_ok (p:= [1,1,1,1,1,1,0,1]))) ((congrArg T.run (p9r K L _)).trans (bF d1 (bT (askS_self _ _) rfl)))
 |none=>
  have k1:=kAt_ok (p:= [1,1,1,0,1]) (b:=bodyOf Tryz.f9) (a2 hf)
  by_cases c2:32<L.length
  ·have hR:bundE K L=6:=by unfold bundE;rw[if_neg c1,hf];exact if_pos c2
   rw[hR]at fin ⊢
   exact fin (KOK.two k1 (kNo_ok (p:= [1,1,1,1,1,1,0,1]))) ((congrArg T.run (p9nx K L _)).trans (bF d1 (bT (askS_self _ _) (bT (decide_eq_true (by rw[eL];omega)) rfl))))
  have d2:decide ((32:Int)<((L.map tyT.elem).length:Int))=false:=decide_eq_false (by rw[eL];omega)
  obtain⟨b1,b2⟩:=find_roundsR (E:=E0) (N:=82) (h0:= []) (c:=sub (bodyOf Tryz.f9) [1,1,1,1,1,1,0,1,0,0]) (p:=fun j=>turnE K L j≠0) (n:=L.length) (st:=st9b L) (hm:=hm9b K L) (hr:=fun _=> []) (rt:=fun j=> [(2, .int .i64 (turnE K L j))]) (id:=2)
   (fun j hj _ hp=>(round9b K L j hj lL hx.2.2).1 (Classical.not_not.1 hp)) (fun j hj _ hp=>(round9b K L j hj lL hx.2.2).2 hp)
   (by
    have ht:=p9b K L (setOf (upto nmK K K.length)) (setOf (upto nmT L L.length)) (((L.map tyT.elem).length:Nat):Int) L.length
    rw[lt_no]at ht
    exact Tri.seenX (h':=hm9b K L L.length) (extra:= []) g0 noG0 calls9 (congrArg T.run ht) (Nat.zero_le _) fx9b sl9b)
  cases hg:firstI (fun j=>turnE K L j≠0) L.length with
  |some i=>
   have hR:bundE K L=turnE K L i:=by unfold bundE;rw[if_neg c1,hf];dsimp only;rw[if_neg c2,hg]
   rw[hR]at fin ⊢
   exact fin (KOK.two k1 (kAt_ok (p:= [1,1,1,1,1,1,0,1]) (b1 i hg))) ((congrArg T.run (p9nr K L _ _)).trans (bF d1 (bT (askS_self _ _) (bF d2 (bT (askS_self _ _) rfl)))))
  |none=>
   have hR:bundE K L=0:=by unfold bundE;rw[if_neg c1,hf];dsimp only;rw[if_neg c2,hg]
   rw[hR]at fin ⊢
   exact fin (KOK.two k1 (kAt_ok (p:= [1,1,1,1,1,1,0,1]) (b2 hg))) ((congrArg T.run (p9nn K L _ _)).trans (bF d1 (bT (askS_self _ _) (bF d2 (bT (askS_self _ _) rfl)))))
end Go.Proofs.YtaooangghieljaaGreatDoor.AM
