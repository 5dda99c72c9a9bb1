-- SQUEEZED
import Derived.Test.YtcocmlmligjjcaaGreatDoorBTexts
namespace Go.Proofs.YtcocmlmligjjcaaGreatDoor.AM
open Go Go.Proofs Go.RowKit
set_option linter.unusedVariables false
set_option linter.unusedSimpArgs false
noncomputable def okLoc(c s:ByteArray)(k:Int):Prop:=sp3 [.str s]=0∧ ¬k≤((sp2 [.str s]).length:Int)∧ ¬(24:Int)<k
noncomputable def locL(c s:ByteArray)(k:Int):List ByteArray:=(⟨#[76]⟩++c++⟨#[59]⟩:ByteArray)::((splitOf s).2.1++List.replicate (k.toNat-1-(sp2 [.str s]).length) (⟨#[]⟩:ByteArray))
noncomputable def locT(c s:ByteArray)(k:Int):List tyS.I:=by
 classical exact if okLoc c s k then locL c s k else []
noncomputable def errI(c s:ByteArray)(k:Int):Int:=if sp3 [.str s]=0 then(if k≤((sp2 [.str s]).length:Int)then 2 else if 24<k then 2 else 0)else 5
noncomputable def startW(c s:ByteArray)(k:Int):AV:= .tup [.agg [encL tyS (locT c s k),encL tyS []], .int .i64 (errI c s k)]
theorem nils_le(t:Ty):Le .nils (encL t []):=Le.nils nofun
theorem start_le(c s:ByteArray)(k:Int):Le (startV c s k) (startW c s k):=by
 have he: ∀e:Int,Le (e42 e) (.tup [.agg [encL tyS [],encL tyS []], .int .i64 e]):=fun e=>
  Le.tup (Les.cons (Le.agg (Les.cons (nils_le _) (Les.cons (nils_le _) .nil))) (Les.cons (Le.refl _) .nil))
 unfold startV startW errI
 by_cases h3:sp3 [.str s]=0
 ·rw[if_pos h3,if_pos h3]
  by_cases hk:k≤((sp2 [.str s]).length:Int)
  ·rw[if_pos hk,if_pos hk]
   have:locT c s k= []:=if_neg fun h=>h.2.1 hk
   rw[this];exact he 2
  ·rw[if_neg hk,if_neg hk]
   by_cases h24:(24:Int)<k
   ·rw[if_pos h24,if_pos h24]
    have:locT c s k= []:=if_neg fun h=>h.2.2 h24
    rw[this];exact he 2
   ·rw[if_neg h24,if_neg h24]
    have:locT c s k=locL c s k:=if_pos ⟨h3,hk,h24⟩;rw[this]
    have e:encL tyS (locL c s k)= .lst 1 (startL c s k) .open_:=by
     show AV.lst 1 (V42 c::List.map AV.str ((splitOf s).2.1++List.replicate (k.toNat-1-(sp2 [.str s]).length) (⟨#[]⟩:ByteArray))) .open_=_;rw[List.map_append,List.map_replicate];rfl
    rw[e];exact Le.tup (Les.cons (Le.agg (Les.cons (Le.refl _) (Les.cons (nils_le _) .nil))) (Les.cons (Le.refl _) .nil))
 ·rw[if_neg h3,if_neg h3]
  have:locT c s k= []:=if_neg fun h=>h3 h.1
  rw[this];exact he 5
theorem locT_len(c s:ByteArray)(k:Int)(hs:s.size≤140737488351232):(locT c s k).length<1000000000000000:=by
 by_cases h:okLoc c s k
 ·have:locT c s k=locL c s k:=if_pos h
  rw[this];show(locL c s k).length<_;unfold locL
  have h2:=sp2_len s hs
  have h3:(splitOf s).2.1.length≤6:=(splitOf_sp s hs).2.2;have:=h.2.2;simp only[List.length_cons,List.length_append,List.length_replicate];omega
 ·have:locT c s k= []:=if_neg h
  rw[this];decide
def okSt(args:List AV):Prop:= ∃(c n s:ByteArray) (k:Int),args= [.str c, .agg [.str n, .str s, .int .i64 k, .nils, .nils]]∧c.size≤140737488351232∧s.size≤140737488351232
noncomputable def startA(args:List AV):AV:=match args with
 | [.str c, .agg (.str _:: .str s:: .int _ k::_)]=>startW c s k
 |_=> .nilp
noncomputable def clSt(f:FuncId):Cl:=⟨f,okSt,startA⟩
theorem args_le(c n s:ByteArray)(k:Int):Les [.str c, .agg [.str n, .str s, .int .i64 k, .nils, .nils]] [.str c, .agg [.str n, .str s, .int .i64 k,encL tyI [],encL tyH []]]:=
 Les.cons (Le.refl _) (Les.cons (Le.agg (Les.cons (Le.refl _) (Les.cons (Le.refl _) (Les.cons (Le.refl _) (Les.cons (nils_le _) (Les.cons (nils_le _) .nil)))))) .nil)
theorem clSt42: ∀args,(clSt 42).ok args→ ∀h,Con E0 (clSt 42).f args h ((clSt 42).res args) h:=by
 rintro args ⟨c,n,s,k,rfl,hc,hs⟩ h;exact((con42 c n s k [] [] hc hs h).le (start_le c s k)).args (args_le c n s k)
theorem clSt43: ∀args,(clSt 43).ok args→ ∀h,Con E0 (clSt 43).f args h ((clSt 43).res args) h:=by
 rintro args ⟨c,n,s,k,rfl,hc,hs⟩ h;exact((con43 c n s k [] [] hc hs h).le (start_le c s k)).args (args_le c n s k)
def okF2(args:List AV):Prop:= ∃L M:List tyS.I,args= [.agg [encL tyS L,encL tyS M]]
def idA(args:List AV):AV:=match args with
 | [.agg [.lst a l t, .lst b m u]]=> .agg [.lst a l t, .lst b m u]
 |_=> .nilp
theorem noF_idA(args:List AV):noF (idA args)=true:=by
 unfold idA
 split<;>rfl
noncomputable def clTk:Cl:=⟨45,okF2,idA⟩
theorem q45(L M:List tyS.I):runV (XN 45 []) (fun _=>none) Tryz.f45 (bodyOf Tryz.f45) [.agg [encL tyS L,encL tyS M]]= .leaf (.agg [encL tyS L,encL tyS M]):=by kernel_rfl
theorem clTk45: ∀args,clTk.ok args→ ∀h,Con E0 clTk.f args h (clTk.res args) h:=by
 rintro args ⟨L,M,rfl⟩ h;exact Con.pureV (X:=XN 45 []) g0 noG0 (noCalls fun _ _ _=>rfl) (fn:=Tryz.f45) Tryz.func45 (c:=bodyOf Tryz.f45) rfl rfl (args:= [.agg [encL tyS L,encL tyS M]]) KOK.none (by simp only[noRefs,noRef,encL_noRef,Bool.and_true]) (congrArg T.run (q45 L M)) (Le.refl _) (by simp only[idA,noRef,noRefs,encL_noRef,Bool.and_true]) h
def okSm(args:List AV):Prop:= ∃L M:List tyS.I,args= [.agg [encL tyS L,encL tyS M], .agg [encL tyS L,encL tyS M]]∧L.length<1000000000000000∧M.length<1000000000000000
noncomputable def clSm:Cl:=⟨44,okSm,fun _=> .bool true⟩
theorem q44(L M:List tyS.I):runV (XC 44 [10] [clLL 111 tyS]) (fun _=>none) Tryz.f44 (bodyOf Tryz.f44) [.agg [encL tyS L,encL tyS M], .agg [encL tyS L,encL tyS M]]=
 (T.br (askQ (clLL (111:FuncId) tyS).2
 [AV.lst (1:Nat) (List.map tyS.elem L) Tl.open_,AV.lst (1:Nat) (List.map tyS.elem L) Tl.open_])
  (T.br (ask (AV.lst (1:Nat) (List.map tyS.elem L) Tl.open_=AV.lst (1:Nat) (List.map tyS.elem L) Tl.open_))
   (T.br (askQ (clLL (111:FuncId) tyS).2
 [AV.lst (1:Nat) (List.map tyS.elem M) Tl.open_,AV.lst (1:Nat) (List.map tyS.elem M) Tl.open_])
    (T.leaf (AV.bool (ask (AV.lst 1 (List.map tyS.elem M) Tl.open_=AV.lst 1 (List.map tyS.elem M) Tl.open_))))
    T.fail)
   (T.leaf (AV.bool false)))
  T.fail):=by kernel_rfl
end Go.Proofs.YtcocmlmligjjcaaGreatDoor.AM
