-- SQUEEZED
/- Names, types and signatures: by the print's contracts and the plain laws; handlers and code. -/
import Derived.Test.YtaooangghieljaaGreatDoorBKinds
import Derived.Test.YtaooangghieljaaGreatDoorQ10
import Derived.Test.YtaooangghieljaaGreatDoorQ11
import Derived.Test.YtaooangghieljaaGreatDoorQ2
import Derived.Test.YtaooangghieljaaGreatDoorQ4
import Derived.Test.YtaooangghieljaaGreatDoorQ8
import Derived.Test.YtaooangghieljaaGreatDoorQ9
import Derived.Test.YtaooangghieljaaGreatDoorQP3r
namespace Go.Proofs.YtaooangghieljaaGreatDoor.AM
open Go Go.Proofs Go.RowKit
open Go.Proofs.YtaooangghieljaaGreatDoor
set_option linter.unusedVariables false
set_option linter.unusedSimpArgs false
def tl(s:ByteArray):List UInt8:=s.data.toList
theorem mk_tl(s:ByteArray):Go.Proofs.PL.mk (tl s)=s:=by cases s;simp[Go.Proofs.PL.mk,tl]
theorem tl_len(s:ByteArray):(tl s).length=s.size:=rfl
def nameC(s:ByteArray):Bool:=Go.Proofs.PL.nameB (tl s)
def descC(s:ByteArray):Bool:=Go.Proofs.PL.rightB (tl s)
set_option maxRecDepth 100000 in
theorem con35(s:ByteArray)(hs:s.size≤140737488351232)(h:H):Con E0 52 [.str s] h (.bool (nameC s)) h:=by
 obtain⟨k,hk⟩:=Go.Proofs.PL.binName (tl s) (by rw[tl_len];omega)
 have h1:=hk k (Nat.le_refl _)
 simp only[mk_tl]at h1;exact Con.of_calls (us:= [.string s]) (.cons (Pin.str s) .nil) (v:= .bool (nameC s)) (fun _ _ _=> .bool _) (enters_of Tryz.func52 (by kernel_rfl) rfl _) (fun w=>(Q.bin_Name.calls k s (nameC s) w h1).mono fun e w' ⟨a,b⟩=>⟨a,b.below⟩) h
set_option maxRecDepth 100000 in
theorem con39(s:ByteArray)(hs:s.size≤140737488351232)(h:H):Con E0 58 [.str s] h (.bool (nameC s)) h:=by
 obtain⟨k,hk⟩:=Go.Proofs.PL.refName (tl s) (by rw[tl_len];omega)
 have h1:=hk k (Nat.le_refl _)
 simp only[mk_tl]at h1;exact Con.of_calls (us:= [.string s]) (.cons (Pin.str s) .nil) (v:= .bool (nameC s)) (fun _ _ _=> .bool _) (enters_of Tryz.func58 (by kernel_rfl) rfl _) (fun w=>(Q.hornbookref01_Name.calls k s (nameC s) w h1).mono fun e w' ⟨a,b⟩=>⟨a,b.below⟩) h
set_option maxRecDepth 100000 in
theorem con69(s:ByteArray)(hs:s.size≤140737488351232)(h:H):Con E0 78 [.str s] h (.bool (descC s)) h:=by
 obtain⟨k,hk⟩:=Go.Proofs.PL.right_ev (tl s) (by rw[tl_len];omega)
 have h1:=hk k (Nat.le_refl _)
 simp only[mk_tl]at h1;exact Con.of_calls (us:= [.string s]) (.cons (Pin.str s) .nil) (v:= .bool (descC s)) (fun _ _ _=> .bool _) (enters_of Tryz.func78 (by kernel_rfl) rfl _) (fun w=>(Q.desc_Right.calls k s (descC s) w h1).mono fun e w' ⟨a,b⟩=>⟨a,b.below⟩) h
set_option maxRecDepth 100000 in
theorem con41(s:ByteArray)(hs:s.size≤140737488351232)(h:H):Con E0 59 [.str s] h (.bool (descC s)) h:=by
 obtain⟨k,hk⟩:=Go.Proofs.PL.refRight (tl s) (by rw[tl_len];omega)
 have h1:=hk k (Nat.le_refl _)
 simp only[mk_tl]at h1;exact Con.of_calls (us:= [.string s]) (.cons (Pin.str s) .nil) (v:= .bool (descC s)) (fun _ _ _=> .bool _) (enters_of Tryz.func59 (by kernel_rfl) rfl _) (fun w=>(Q.hornbookref02_Right.calls k s (descC s) w h1).mono fun e w' ⟨a,b⟩=>⟨a,b.below⟩) h
open Go.Proofs.YtaooangghieljaaGreatDoorW.PrintWords in
theorem kd_texts{F:Area}{ρ:Rho}{w:World}{base:Nat}{v:Value}{l:List ByteArray}(hF: ∀B off,base≤B→ ¬F B off)(h:Kd.R Kd.string 9 w base (fun _=>True) v l):CR F ρ w v (.lst 1 (l.map AV.str) .open_):=by
 obtain⟨_,inner,⟨h1,h2⟩,h3,h4⟩:=h;have hsz:(Kd.string).sz=1:=rfl
 refine CR.texts hF ?_
 rcases h2 with⟨rfl,h0⟩|⟨g,cap,cur,rfl,hg,hb,hn,_,hc,hi⟩
 ·exact .inl ⟨rfl,List.eq_nil_of_length_eq_zero h0⟩
 ·refine .inr ⟨g,cap,cur,_,_,rfl,hg,hb,hn,by rw[hc,hsz,Nat.mul_one];exact Nat.le_refl _,fun j s hj=>?_⟩
  have hm:(inner.drop (j*1)).take 1= [.string s]:=h4 j s hj
  have hl:=lt_of_getl hj
  rw[←hi,Nat.mul_one]at hm
  have:(((cur.toList.take (l.length*1)).drop j).take 1)[0]?=some (.string s):=by
   have hm':=congrArg (fun q:List Value=>q[0]?) hm;exact hm'
  rw[Nat.mul_one]at this;simp only[List.getElem?_take,List.getElem?_drop]at this;rw[if_pos (by omega),if_pos (by omega)]at this
  simpa using this
def Sp(s:ByteArray)(r:ByteArray×List ByteArray×Int):Prop:=(∀h,Con E0 79 [.str s] h (.tup [.str r.1, .lst 1 (r.2.1.map AV.str) .open_, .int .i64 r.2.2]) h)∧(∀h,Con E0 83 [.str s] h (.tup [.str r.1, .lst 1 (r.2.1.map AV.str) .open_, .int .i64 r.2.2]) h)∧r.2.1.length≤6
set_option maxRecDepth 100000 in
theorem split_ex(s:ByteArray)(hs:s.size≤140737488351232): ∃r,Sp s r:=by
 obtain⟨us,g,e,⟨k1,h1⟩,⟨k2,h2⟩,hd⟩:=Go.Proofs.PL.split_both (tl s) (by rw[tl_len];omega)
 have e1:=h1 k1 (Nat.le_refl _)
 have e2:=h2 k2 (Nat.le_refl _)
 simp only[mk_tl]at e1 e2
 have row: ∀{F:Area} {ρ:Rho} {w:World} {v1:Value},CR F ρ w v1 (.lst 1 ((Go.Proofs.PL.mks us).map AV.str) .open_)→CR F ρ w (.tuple #[.string (Go.Proofs.PL.mk g),v1, .int .i64 e]) (.tup [.str (Go.Proofs.PL.mk g), .lst 1 ((Go.Proofs.PL.mks us).map AV.str) .open_, .int .i64 e]):=
  fun h=> .tup_of (.cons (.str _) (.cons h (.cons (.int _ _) .nil)))
 refine⟨(Go.Proofs.PL.mk g,Go.Proofs.PL.mks us,e),fun h=>?_,fun h=>?_,?_⟩
 ·exact Con.of_made (us:= [.string s]) (.cons (Pin.str s) .nil) (enters_of Tryz.func79 (by kernel_rfl) rfl _)
   (fun w=>(Q.desc_Split.calls k1 s _ _ e w e1).mono fun x w' ⟨v1,a,b,c⟩=>⟨_,a,c,fun F ρ hF=>row (kd_texts hF b)⟩) h
 ·exact Con.of_made (us:= [.string s]) (.cons (Pin.str s) .nil) (enters_of Tryz.func83 (by kernel_rfl) rfl _)
   (fun w=>(Q.hornbookref02_Split.calls k2 s _ _ e w e2).mono fun x w' ⟨v1,a,b,c⟩=>⟨_,a,c,fun F ρ hF=>row (kd_texts hF b)⟩) h
 ·have hl:(Go.Proofs.PL.mks us).length=us.length:=by simp[Go.Proofs.PL.mks]
  show(Go.Proofs.PL.mks us).length≤6;rw[hl]
  rcases hd with⟨_,hs⟩|⟨_,_,rfl,_⟩
  ·rcases Nat.lt_or_ge 6 us.length with h|h
   ·unfold Go.Proofs.PL.sigB at hs
    rw[if_pos h]at hs
    have h9:=congrArg Prod.snd hs
    simp at h9
   ·exact h
  ·simp
def st105(L:List tyH.I)(n:Int)(j:Nat):List (Nat×AV):= [(1, .int .i64 n),(10,encL tyH L),(11, .int .i64 (((L.map tyH.elem).length:Nat):Int)),(12, .int .i64 j)]
def st74(L:List tyH.I)(n:Int)(j:Nat):List (Nat×AV):= [(0,encL tyH L),(1, .int .i64 n),(5, .int .i64 j)]
def nmA:List AV→Bool
 | [.str s]=>nameC s
 |_=>false
def dsA:List AV→Bool
 | [.str s]=>descC s
 |_=>false
def okS(args:List AV):Prop:= ∃s:ByteArray,args= [.str s]∧s.size≤140737488351232
def clN(f:FuncId):Cl:=⟨f,okS,fun args=> .bool (nmA args)⟩
def clD(f:FuncId):Cl:=⟨f,okS,fun args=> .bool (dsA args)⟩
theorem clN35: ∀args,(clN 52).ok args→ ∀h,Con E0 (clN 52).f args h ((clN 52).res args) h:=by
 rintro args ⟨s,rfl,hs⟩ h;exact con35 s hs h
theorem clN39: ∀args,(clN 58).ok args→ ∀h,Con E0 (clN 58).f args h ((clN 58).res args) h:=by
 rintro args ⟨s,rfl,hs⟩ h;exact con39 s hs h
theorem clD69: ∀args,(clD 78).ok args→ ∀h,Con E0 (clD 78).f args h ((clD 78).res args) h:=by
 rintro args ⟨s,rfl,hs⟩ h;exact con69 s hs h
theorem clD41: ∀args,(clD 59).ok args→ ∀h,Con E0 (clD 59).f args h ((clD 59).res args) h:=by
 rintro args ⟨s,rfl,hs⟩ h;exact con41 s hs h
theorem callsOne{X:SX}{c:Cl}(hx:X.call=callsBy [c])(hE:X.E=E0)(hc: ∀args,c.ok args→ ∀h,Con E0 c.f args h (c.res args) h):CallOK X.E X.calls:=callsBy_ok hx fun d hd=>by
 rw[hE];obtain rfl:=List.mem_singleton.1 hd;exact hc
theorem p105(L:List tyH.I)(n:Int)(m i:Int):obsK (XC 109 [9,13,16,20,27,33,38,44] [clN 52]) (fun _=>none) 50 (sub (bodyOf Tryz.f109) [1,1,0,1,0,0]) [1,1,0,1,0,0] (frm [(1, .int .i64 n),(10,encL tyH L),(11, .int .i64 m),(12, .int .i64 i)]) [] [1,4,10,11,12]=
 ((fun(s0:T (X×List AV×H))=>((fun(s1:T (X×List AV×H))=>((fun(s2:T (X×List AV×H))=>((fun(s3:T (X×List AV×H))=>((fun(s4:T (X×List AV×H))=>((fun(s5:T (X×List AV×H))=>(T.br (decide (i<m)) (T.br (decide ((0:Int)≤i)&&decide (i<(↑(List.map tyH.elem L).length:Int))&&fitsC Tryz.prog (90:Nat) ((List.map tyH.elem L).getD i.toNat undef))
 (T.br (decide ((((List.map tyH.elem L).getD i.toNat undef).cells.getD 0 undef).toI<(0:Int))) (T.br true (T.br true s4 s5) (T.br (decide (n<(((List.map tyH.elem L).getD i.toNat undef).cells.getD 1 undef).toI)) s4 s5)) (T.br (decide ((((List.map tyH.elem L).getD i.toNat undef).cells.getD 1 undef).toI≤(((List.map tyH.elem L).getD i.toNat undef).cells.getD 0 undef).toI)) (T.br true s4 s5) (T.br
 (decide (n<(((List.map tyH.elem L).getD i.toNat undef).cells.getD 1 undef).toI)) s4 s5))) T.fail) (T.leaf ((X.exit 0,[AV.int IntKind.i64 n,AV.fsl 0 [],AV.lst 4 (List.map tyH.elem L) Tl.open_,AV.int IntKind.i64 m,AV.int IntKind.i64 i],[]))))) (T.br (decide ((((List.map tyH.elem L).getD i.toNat undef).cells.getD 2 undef).toI<(0:Int))) (T.br true s0 s3) (T.br (decide (n≤(((List.map
 tyH.elem L).getD i.toNat undef).cells.getD 2 undef).toI)) s0 s3)))) (T.br true (T.br true s0 s3) (T.br (decide (n≤(((List.map tyH.elem L).getD i.toNat undef).cells.getD 2 undef).toI)) s0 s3)))) (T.br (askQ (clN (52:FuncId)).2 [AV.str (((List.map tyH.elem L).getD i.toNat undef).cells.getD 3 undef).toS]) (T.br (!nmA [AV.str (((List.map tyH.elem L).getD i.toNat undef).cells.getD 3 undef).toS]) s1
 s2) T.fail))) (T.leaf ((X.normal,[AV.int IntKind.i64 n,AV.fsl 0 [],AV.lst 4 (List.map tyH.elem L) Tl.open_,AV.int IntKind.i64 m,AV.int IntKind.i64 (IntKind.i64.wrap (i+1))],[Blk.var [AV.int IntKind.i64 (((List.map tyH.elem L).getD i.toNat undef).cells.getD 0 undef).toI,AV.int IntKind.i64 (((List.map tyH.elem L).getD i.toNat undef).cells.getD 1 undef).toI,AV.int IntKind.i64 (((List.map
 tyH.elem L).getD i.toNat undef).cells.getD 2 undef).toI,AV.str (((List.map tyH.elem L).getD i.toNat undef).cells.getD 3 undef).toS]]))))) (T.leaf ((X.ret,[AV.int IntKind.i64 n,AV.int IntKind.i64 7,AV.lst 4 (List.map tyH.elem L) Tl.open_,AV.int IntKind.i64 m,AV.int IntKind.i64 i],[Blk.var [AV.int IntKind.i64 (((List.map tyH.elem L).getD i.toNat undef).cells.getD 0 undef).toI,AV.int
 IntKind.i64 (((List.map tyH.elem L).getD i.toNat undef).cells.getD 1 undef).toI,AV.int IntKind.i64 (((List.map tyH.elem L).getD i.toNat undef).cells.getD 2 undef).toI,AV.str (((List.map tyH.elem L).getD i.toNat undef).cells.getD 3 undef).toS]]))))) (T.leaf ((X.ret,[AV.int IntKind.i64 n,AV.int IntKind.i64 3,AV.lst 4 (List.map tyH.elem L) Tl.open_,AV.int IntKind.i64 m,AV.int IntKind.i64 i],
 [Blk.var [AV.int IntKind.i64 (((List.map tyH.elem L).getD i.toNat undef).cells.getD 0 undef).toI,AV.int IntKind.i64 (((List.map tyH.elem L).getD i.toNat undef).cells.getD 1 undef).toI,AV.int IntKind.i64 (((List.map tyH.elem L).getD i.toNat undef).cells.getD 2 undef).toI,AV.str (((List.map tyH.elem L).getD i.toNat undef).cells.getD 3 undef).toS]])))):=by kernel_rfl
theorem p74(L:List tyH.I)(n:Int)(i:Int):obsK (XC 85 [9,13,23,30,36,41,46,50] [clN 58]) (fun _=>none) 51 (sub (bodyOf Tryz.f85) [1,1,0,1,0,0]) [1,1,0,1,0,0] (frm [(0,encL tyH L),(1, .int .i64 n),(5, .int .i64 i)]) [] [0,1,4,5]=
 ((fun(s0:T (X×List AV×H))=>((fun(s1:T (X×List AV×H))=>((fun(s2:T (X×List AV×H))=>((fun(s3:T (X×List AV×H))=>((fun(s4:T (X×List AV×H))=>((fun(s5:T (X×List AV×H))=>(T.br (decide (i<(↑(List.map tyH.elem L).length:Int))) (T.br (decide ((0:Int)≤i)&&decide (i<(↑(List.map tyH.elem L).length:Int))&&fitsC Tryz.prog (90:Nat) ((List.map
 tyH.elem L).getD i.toNat undef)) (T.br (decide ((((List.map tyH.elem L).getD i.toNat undef).cells.getD 0 undef).toI<(0:Int))) (T.br true (T.br true s4 s5) (T.br (decide (n<(((List.map tyH.elem L).getD i.toNat undef).cells.getD 1 undef).toI)) s4 s5)) (T.br (decide ((((List.map tyH.elem L).getD i.toNat undef).cells.getD 1 undef).toI≤(((List.map tyH.elem L).getD i.toNat undef).cells.getD 0
 undef).toI)) (T.br true s4 s5) (T.br (decide (n<(((List.map tyH.elem L).getD i.toNat undef).cells.getD 1 undef).toI)) s4 s5))) T.fail) (T.leaf ((X.exit 0,[AV.lst 4 (List.map tyH.elem L) Tl.open_,AV.int IntKind.i64 n,AV.fsl 0 [],AV.int IntKind.i64 i],[]))))) (T.br (decide ((((List.map tyH.elem L).getD i.toNat undef).cells.getD 2 undef).toI<(0:Int))) (T.br true s0 s3) (T.br (decide (n≤
 (((List.map tyH.elem L).getD i.toNat undef).cells.getD 2 undef).toI)) s0 s3)))) (T.br true (T.br true s0 s3) (T.br (decide (n≤(((List.map tyH.elem L).getD i.toNat undef).cells.getD 2 undef).toI)) s0 s3)))) (T.br (askQ (clN (58:FuncId)).2 [AV.str (((List.map tyH.elem L).getD i.toNat undef).cells.getD 3 undef).toS]) (T.br (!nmA [AV.str (((List.map tyH.elem L).getD i.toNat undef).cells.getD 3
 undef).toS]) s1 s2) T.fail))) (T.leaf ((X.normal,[AV.lst 4 (List.map tyH.elem L) Tl.open_,AV.int IntKind.i64 n,AV.fsl 0 [],AV.int IntKind.i64 (IntKind.i64.wrap (i+1))],[Blk.var [AV.int IntKind.i64 (((List.map tyH.elem L).getD i.toNat undef).cells.getD 0 undef).toI,AV.int IntKind.i64 (((List.map tyH.elem L).getD i.toNat undef).cells.getD 1 undef).toI,AV.int IntKind.i64 (((List.map tyH.elem
 L).getD i.toNat undef).cells.getD 2 undef).toI,AV.str (((List.map tyH.elem L).getD i.toNat undef).cells.getD 3 undef).toS]]))))) (T.leaf ((X.ret,[AV.lst 4 (List.map tyH.elem L) Tl.open_,AV.int IntKind.i64 n,AV.int IntKind.i64 7,AV.int IntKind.i64 i],[Blk.var [AV.int IntKind.i64 (((List.map tyH.elem L).getD i.toNat undef).cells.getD 0 undef).toI,AV.int IntKind.i64 (((List.map tyH.elem L).getD
 i.toNat undef).cells.getD 1 undef).toI,AV.int IntKind.i64 (((List.map tyH.elem L).getD i.toNat undef).cells.getD 2 undef).toI,AV.str (((List.map tyH.elem L).getD i.toNat undef).cells.getD 3 undef).toS]]))))) (T.leaf ((X.ret,[AV.lst 4 (List.map tyH.elem L) Tl.open_,AV.int IntKind.i64 n,AV.int IntKind.i64 3,AV.int IntKind.i64 i],[Blk.var [AV.int IntKind.i64 (((List.map tyH.elem L).getD i.toNat
 undef).cells.getD 0 undef).toI,AV.int IntKind.i64 (((List.map tyH.elem L).getD i.toNat undef).cells.getD 1 undef).toI,AV.int IntKind.i64 (((List.map tyH.elem L).getD i.toNat undef).cells.getD 2 undef).toI,AV.str (((List.map tyH.elem L).getD i.toNat undef).cells.getD 3 undef).toS]])))):=by kernel_rfl
theorem p105s(L:List tyH.I)(n:Int)(e:Int):runV (XN 109 [9,13,16,20,27,33,38,44]) (kAt [1,1,0,1] (st105 L n 0) [] .ret [(4, .int .i64 e)] []) Tryz.f109 (bodyOf Tryz.f109) [encL tyH L, .int .i64 n]=
 (T.br (decide ((8:Int)<(↑(List.map tyH.elem L).length:Int))) (T.leaf (AV.int IntKind.i64 6)) (T.br (askS [AV.int IntKind.i64 n,AV.lst 4 (List.map tyH.elem L) Tl.open_,AV.int IntKind.i64 (↑(List.map tyH.elem L).length:Int),AV.int IntKind.i64 (0:Int)] [AV.int IntKind.i64 n,AV.lst 4 (List.map tyH.elem L) Tl.open_,AV.int IntKind.i64 (↑(List.map tyH.elem L).length:Int),AV.int
 IntKind.i64 (↑(0:Nat):Int)] [] []) (T.leaf (AV.int IntKind.i64 e)) T.fail)):=by kernel_rfl
theorem p105n(L:List tyH.I)(n:Int):runV (XN 109 [9,13,16,20,27,33,38,44]) (kAt [1,1,0,1] (st105 L n 0) [] .normal (st105 L n L.length) []) Tryz.f109 (bodyOf Tryz.f109) [encL tyH L, .int .i64 n]=
 (T.br (decide ((8:Int)<(↑(List.map tyH.elem L).length:Int))) (T.leaf (AV.int IntKind.i64 6)) (T.br (askS [AV.int IntKind.i64 n,AV.lst 4 (List.map tyH.elem L) Tl.open_,AV.int IntKind.i64 (↑(List.map tyH.elem L).length:Int),AV.int IntKind.i64 (0:Int)] [AV.int IntKind.i64 n,AV.lst 4 (List.map tyH.elem L) Tl.open_,AV.int IntKind.i64 (↑(List.map tyH.elem L).length:Int),AV.int
 IntKind.i64 (↑(0:Nat):Int)] [] []) (T.leaf (AV.int IntKind.i64 0)) T.fail)):=by kernel_rfl
theorem p105x(L:List tyH.I)(n:Int):runV (XN 109 [9,13,16,20,27,33,38,44]) (kNo [1,1,0,1]) Tryz.f109 (bodyOf Tryz.f109) [encL tyH L, .int .i64 n]=
 (T.br (decide ((8:Int)<(↑(List.map tyH.elem L).length:Int))) (T.leaf (AV.int IntKind.i64 6)) T.fail):=by kernel_rfl
theorem p74s(L:List tyH.I)(n:Int)(e:Int):runV (XN 85 [9,13,23,30,36,41,46,50]) (kAt [1,1,0,1] (st74 L n 0) [] .ret [(4, .int .i64 e)] []) Tryz.f85 (bodyOf Tryz.f85) [encL tyH L, .int .i64 n]=
 (T.br (decide ((8:Int)<(↑(List.map tyH.elem L).length:Int))) (T.leaf (AV.int IntKind.i64 6)) (T.br (askS [AV.lst 4 (List.map tyH.elem L) Tl.open_,AV.int IntKind.i64 n,AV.int IntKind.i64 (0:Int)] [AV.lst 4 (List.map tyH.elem L) Tl.open_,AV.int IntKind.i64 n,AV.int IntKind.i64 (↑(0:Nat):Int)] [] []) (T.leaf (AV.int IntKind.i64 e)) T.fail)):=by kernel_rfl
theorem p74n(L:List tyH.I)(n:Int):runV (XN 85 [9,13,23,30,36,41,46,50]) (kAt [1,1,0,1] (st74 L n 0) [] .normal (st74 L n L.length) []) Tryz.f85 (bodyOf Tryz.f85) [encL tyH L, .int .i64 n]=
 (T.br (decide ((8:Int)<(↑(List.map tyH.elem L).length:Int))) (T.leaf (AV.int IntKind.i64 6)) (T.br (askS [AV.lst 4 (List.map tyH.elem L) Tl.open_,AV.int IntKind.i64 n,AV.int IntKind.i64 (0:Int)] [AV.lst 4 (List.map tyH.elem L) Tl.open_,AV.int IntKind.i64 n,AV.int IntKind.i64 (↑(0:Nat):Int)] [] []) (T.leaf (AV.int IntKind.i64 0)) T.fail)):=by kernel_rfl
theorem p74x(L:List tyH.I)(n:Int):runV (XN 85 [9,13,23,30,36,41,46,50]) (kNo [1,1,0,1]) Tryz.f85 (bodyOf Tryz.f85) [encL tyH L, .int .i64 n]=
 (T.br (decide ((8:Int)<(↑(List.map tyH.elem L).length:Int))) (T.leaf (AV.int IntKind.i64 6)) T.fail):=by kernel_rfl
def handE(x:tyH.I)(n:Int):Int:=
 match decide (((tyH.elem x).cells.getD 0 undef).toI<0)||(decide (((tyH.elem x).cells.getD 1 undef).toI≤((tyH.elem x).cells.getD 0 undef).toI)||(decide (n<((tyH.elem x).cells.getD 1 undef).toI)||(decide (((tyH.elem x).cells.getD 2 undef).toI<0)||decide (n≤((tyH.elem x).cells.getD 2 undef).toI))))with
 |true=>3
 |false=>match nmA [AV.str ((tyH.elem x).cells.getD 3 undef).toS]with
  |true=>0
  |false=>7
theorem handE_in(x:tyH.I)(n:Int):handE x n=0∨handE x n=3∨handE x n=7:=by
 unfold handE;split
 ·exact .inr (.inl rfl)
 ·split
  ·exact .inl rfl
  ·exact .inr (.inr rfl)
noncomputable def handsE(L:List tyH.I)(n:Int):Int:=if 8<L.length then 6 else match firstI (fun j=>handE (L.getD j tyH.zero) n≠0) L.length with
 |some i=>handE (L.getD i tyH.zero) n
 |none=>0
set_option maxRecDepth 100000 in
theorem run105(L:List tyH.I)(n:Int)(j:Nat)(hj:j<L.length)(hl:L.length<1000000000000000)(hok:tyH.okay (L.getD j tyH.zero)):
  ∃m,(obsK (XC 109 [9,13,16,20,27,33,38,44] [clN 52]) (fun _=>none) 50 (sub (bodyOf Tryz.f109) [1,1,0,1,0,0]) [1,1,0,1,0,0] (frm (st105 L n j)) [] [1,4,10,11,12]).run=
   .ok (match handE (L.getD j tyH.zero) n with
    |0=>(.normal,[.int .i64 n, .fsl 0 [],encL tyH L, .int .i64 (((L.map tyH.elem).length:Nat):Int), .int .i64 ((j+1:Nat):Int)],m)
    |e=>(.ret,[.int .i64 n, .int .i64 e,encL tyH L, .int .i64 (((L.map tyH.elem).length:Nat):Int), .int .i64 j],m)):=by
 have ht:=p105 L n (((L.map tyH.elem).length:Nat):Int) j
 have f0:fitsC Tryz.prog 90 (tyH.elem tyH.zero)=true:=by kernel_rfl
 rw[idx_ok hj f0,lt_ok hj,Int.toNat_natCast,getD_elem hj,wrap_next (by omega)]at ht;obtain⟨x,hx⟩: ∃x:tyH.I,L.getD j tyH.zero=x:=⟨_,rfl⟩
 rw[hx]at ht hok ⊢
 have hq:askQ (clN 52).2 [AV.str ((tyH.elem x).cells.getD 3 undef).toS]=true:=by
  obtain⟨x0,x1,x2,x3⟩:=x;exact ask_true ⟨x3,rfl,hok.2.2.2⟩
 rw[hq]at ht;unfold handE
 generalize decide (((tyH.elem x).cells.getD 0 undef).toI<0)=c0 at ht ⊢
 generalize decide (((tyH.elem x).cells.getD 1 undef).toI≤((tyH.elem x).cells.getD 0 undef).toI)=c1 at ht ⊢
 generalize decide (n<((tyH.elem x).cells.getD 1 undef).toI)=c2 at ht ⊢
 generalize decide (((tyH.elem x).cells.getD 2 undef).toI<0)=c3 at ht ⊢
 generalize decide (n≤((tyH.elem x).cells.getD 2 undef).toI)=c4 at ht ⊢
 generalize nmA [AV.str ((tyH.elem x).cells.getD 3 undef).toS]=c5 at ht ⊢
 cases c0<;>cases c1<;>cases c2<;>cases c3<;>cases c4<;>cases c5<;>exact⟨_,congrArg T.run ht⟩
theorem con105(L:List tyH.I)(n:Int)(hl:L.length<1000000000000000)(hok: ∀x,x∈L→tyH.okay x)(h:H):Con E0 109 [encL tyH L, .int .i64 n] h (.int .i64 (handsE L n)) h:=by
 have hn:noRefs [encL tyH L, .int .i64 n]=true:=by simp only[noRefs,encL_noRef,Bool.and_true,Bool.true_and];rfl
 have hlen:(L.map tyH.elem).length=L.length:=by simp
 have fin: ∀{K:Known} {v:Int},KOK E0 50 [] (bodyOf Tryz.f109) K→(runV (XN 109 [9,13,16,20,27,33,38,44]) K Tryz.f109 (bodyOf Tryz.f109) [encL tyH L, .int .i64 n]).run= .ok (.int .i64 v)→Con E0 109 [encL tyH L, .int .i64 n] h (.int .i64 v) h:=fun hk hr=>
  Con.pureV (X:=XN 109 [9,13,16,20,27,33,38,44]) g0 noG0 (noCalls fun _ _ _=>rfl) (fn:=Tryz.f109) Tryz.func109 (c:=bodyOf Tryz.f109) rfl rfl (args:= [encL tyH L, .int .i64 n]) hk hn hr (Le.refl _) rfl h
 by_cases h8:8<L.length
 ·have hR:handsE L n=6:=if_pos h8
  rw[hR];exact fin (kNo_ok (p:= [1,1,0,1])) ((congrArg T.run (p105x L n)).trans (bT (decide_eq_true (by rw[hlen];omega)) rfl))
 ·have hR:handsE L n=match firstI (fun j=>handE (L.getD j tyH.zero) n≠0) L.length with
    |some i=>handE (L.getD i tyH.zero) n
    |none=>0:=if_neg h8
  have hmem: ∀j,j<L.length→tyH.okay (L.getD j tyH.zero):=fun j hj=>hok _ (by rw[List.getD_eq_getElem?_getD,List.getElem?_eq_getElem hj];exact List.getElem_mem hj)
  have hT:=find_rounds (E:=E0) (N:=50) (h0:= []) (c:=sub (bodyOf Tryz.f109) [1,1,0,1,0,0]) (p:=fun j=>handE (L.getD j tyH.zero) n≠0) (n:=L.length) (st:=st105 L n) (hm:= []) (rt:=fun j=> [(4, .int .i64 (handE (L.getD j tyH.zero) n))]) (id:=0)
   (fun j hj hp=>by
    obtain⟨m,hr⟩:=run105 L n j hj hl (hmem j hj);have hp:handE (L.getD j tyH.zero) n=0:=Classical.not_not.1 hp;rw[hp]at hr
    exact Tri.seen0 g0 noG0 (callsOne rfl rfl clN35) KOK.none rfl hr (by
     intro q hq;simp only[st105,List.mem_cons,List.not_mem_nil,or_false]at hq
     rcases hq with rfl|rfl|rfl|rfl<;>exact⟨rfl,by first|exact encL_noRef _ _|rfl,rfl⟩))
   (fun j hj hp=>by
    obtain⟨m,hr⟩:=run105 L n j hj hl (hmem j hj)
    have h3:=handE_in (L.getD j tyH.zero) n
    rcases h3 with h3|h3|h3
    ·exact absurd h3 hp
    ·rw[h3]at hr ⊢
     exact Tri.seen0 g0 noG0 (callsOne rfl rfl clN35) KOK.none rfl hr (by
      intro q hq;simp only[List.mem_cons,List.not_mem_nil,or_false]at hq
      rcases hq with rfl;exact⟨rfl,rfl,rfl⟩)
    ·rw[h3]at hr ⊢
     exact Tri.seen0 g0 noG0 (callsOne rfl rfl clN35) KOK.none rfl hr (by
      intro q hq;simp only[List.mem_cons,List.not_mem_nil,or_false]at hq
      rcases hq with rfl;exact⟨rfl,rfl,rfl⟩))
   (by
    have ht:=p105 L n (((L.map tyH.elem).length:Nat):Int) L.length
    rw[lt_no]at ht
    exact Tri.seen g0 (callsOne rfl rfl clN35) KOK.none rfl (congrArg T.run ht) (by
     intro q hq;simp only[st105,List.mem_cons,List.not_mem_nil,or_false]at hq
     rcases hq with rfl|rfl|rfl|rfl<;>rfl))
  have hS:(askS
 [AV.int IntKind.i64 n,AV.lst (4:Nat) (List.map tyH.elem L) Tl.open_,
  AV.int IntKind.i64 (↑(List.map tyH.elem L).length:Int),AV.int IntKind.i64 (0:Int)]
 [AV.int IntKind.i64 n,AV.lst (4:Nat) (List.map tyH.elem L) Tl.open_,
  AV.int IntKind.i64 (↑(List.map tyH.elem L).length:Int),AV.int IntKind.i64 (↑(0:Nat):Int)]
 [] [])=true:=askS_self _ _
  rw[hR]
  cases hf:firstI (fun j=>handE (L.getD j tyH.zero) n≠0) L.length with
  |some i=>
   rw[hf]at hT;have hk:KOK E0 50 [] (bodyOf Tryz.f109) (kAt [1,1,0,1] (st105 L n 0) [] .ret [(4, .int .i64 (handE (L.getD i tyH.zero) n))] []):=kAt_ok (Tri.block (id:=0) (Tri.loop hT));exact fin hk ((congrArg T.run (p105s L n _)).trans (bF (decide_eq_false (by rw[hlen];omega)) (bT hS rfl)))
  |none=>
   rw[hf]at hT;have hk:KOK E0 50 [] (bodyOf Tryz.f109) (kAt [1,1,0,1] (st105 L n 0) [] .normal (st105 L n L.length) []):=kAt_ok (Tri.block (id:=0) (Tri.loop hT));exact fin hk ((congrArg T.run (p105n L n)).trans (bF (decide_eq_false (by rw[hlen];omega)) (bT hS rfl)))
set_option maxRecDepth 100000 in
theorem run74(L:List tyH.I)(n:Int)(j:Nat)(hj:j<L.length)(hl:L.length<1000000000000000)(hok:tyH.okay (L.getD j tyH.zero)):
  ∃m,(obsK (XC 85 [9,13,23,30,36,41,46,50] [clN 58]) (fun _=>none) 51 (sub (bodyOf Tryz.f85) [1,1,0,1,0,0]) [1,1,0,1,0,0] (frm (st74 L n j)) [] [0,1,4,5]).run=
   .ok (match handE (L.getD j tyH.zero) n with
    |0=>(.normal,[encL tyH L, .int .i64 n, .fsl 0 [], .int .i64 ((j+1:Nat):Int)],m)
    |e=>(.ret,[encL tyH L, .int .i64 n, .int .i64 e, .int .i64 j],m)):=by
 have ht:=p74 L n j
 have f0:fitsC Tryz.prog 90 (tyH.elem tyH.zero)=true:=by kernel_rfl
 rw[idx_ok hj f0,lt_ok hj,Int.toNat_natCast,getD_elem hj,wrap_next (by omega)]at ht;obtain⟨x,hx⟩: ∃x:tyH.I,L.getD j tyH.zero=x:=⟨_,rfl⟩
 rw[hx]at ht hok ⊢
 have hq:askQ (clN 58).2 [AV.str ((tyH.elem x).cells.getD 3 undef).toS]=true:=by
  obtain⟨x0,x1,x2,x3⟩:=x;exact ask_true ⟨x3,rfl,hok.2.2.2⟩
 rw[hq]at ht;unfold handE
 generalize decide (((tyH.elem x).cells.getD 0 undef).toI<0)=c0 at ht ⊢
 generalize decide (((tyH.elem x).cells.getD 1 undef).toI≤((tyH.elem x).cells.getD 0 undef).toI)=c1 at ht ⊢
 generalize decide (n<((tyH.elem x).cells.getD 1 undef).toI)=c2 at ht ⊢
 generalize decide (((tyH.elem x).cells.getD 2 undef).toI<0)=c3 at ht ⊢
 generalize decide (n≤((tyH.elem x).cells.getD 2 undef).toI)=c4 at ht ⊢
 generalize nmA [AV.str ((tyH.elem x).cells.getD 3 undef).toS]=c5 at ht ⊢
 cases c0<;>cases c1<;>cases c2<;>cases c3<;>cases c4<;>cases c5<;>exact⟨_,congrArg T.run ht⟩
theorem con74(L:List tyH.I)(n:Int)(hl:L.length<1000000000000000)(hok: ∀x,x∈L→tyH.okay x)(h:H):Con E0 85 [encL tyH L, .int .i64 n] h (.int .i64 (handsE L n)) h:=by
 have hn:noRefs [encL tyH L, .int .i64 n]=true:=by simp only[noRefs,encL_noRef,Bool.and_true,Bool.true_and];rfl
 have hlen:(L.map tyH.elem).length=L.length:=by simp
 have fin: ∀{K:Known} {v:Int},KOK E0 51 [] (bodyOf Tryz.f85) K→(runV (XN 85 [9,13,23,30,36,41,46,50]) K Tryz.f85 (bodyOf Tryz.f85) [encL tyH L, .int .i64 n]).run= .ok (.int .i64 v)→Con E0 85 [encL tyH L, .int .i64 n] h (.int .i64 v) h:=fun hk hr=>
  Con.pureV (X:=XN 85 [9,13,23,30,36,41,46,50]) g0 noG0 (noCalls fun _ _ _=>rfl) (fn:=Tryz.f85) Tryz.func85 (c:=bodyOf Tryz.f85) rfl rfl (args:= [encL tyH L, .int .i64 n]) hk hn hr (Le.refl _) rfl h
 by_cases h8:8<L.length
 ·have hR:handsE L n=6:=if_pos h8
  rw[hR];exact fin (kNo_ok (p:= [1,1,0,1])) ((congrArg T.run (p74x L n)).trans (bT (decide_eq_true (by rw[hlen];omega)) rfl))
 ·have hR:handsE L n=match firstI (fun j=>handE (L.getD j tyH.zero) n≠0) L.length with
    |some i=>handE (L.getD i tyH.zero) n
    |none=>0:=if_neg h8
  have hmem: ∀j,j<L.length→tyH.okay (L.getD j tyH.zero):=fun j hj=>hok _ (by rw[List.getD_eq_getElem?_getD,List.getElem?_eq_getElem hj];exact List.getElem_mem hj)
  have hT:=find_rounds (E:=E0) (N:=51) (h0:= []) (c:=sub (bodyOf Tryz.f85) [1,1,0,1,0,0]) (p:=fun j=>handE (L.getD j tyH.zero) n≠0) (n:=L.length) (st:=st74 L n) (hm:= []) (rt:=fun j=> [(4, .int .i64 (handE (L.getD j tyH.zero) n))]) (id:=0)
   (fun j hj hp=>by
    obtain⟨m,hr⟩:=run74 L n j hj hl (hmem j hj);have hp:handE (L.getD j tyH.zero) n=0:=Classical.not_not.1 hp;rw[hp]at hr
    exact Tri.seen0 g0 noG0 (callsOne rfl rfl clN39) KOK.none rfl hr (by
     intro q hq;simp only[st74,List.mem_cons,List.not_mem_nil,or_false]at hq
     rcases hq with rfl|rfl|rfl<;>exact⟨rfl,by first|exact encL_noRef _ _|rfl,rfl⟩))
   (fun j hj hp=>by
    obtain⟨m,hr⟩:=run74 L n j hj hl (hmem j hj)
    have h3:=handE_in (L.getD j tyH.zero) n
    rcases h3 with h3|h3|h3
    ·exact absurd h3 hp
    ·rw[h3]at hr ⊢
     exact Tri.seen0 g0 noG0 (callsOne rfl rfl clN39) KOK.none rfl hr (by
      intro q hq;simp only[List.mem_cons,List.not_mem_nil,or_false]at hq
      rcases hq with rfl;exact⟨rfl,rfl,rfl⟩)
    ·rw[h3]at hr ⊢
     exact Tri.seen0 g0 noG0 (callsOne rfl rfl clN39) KOK.none rfl hr (by
      intro q hq;simp only[List.mem_cons,List.not_mem_nil,or_false]at hq
      rcases hq with rfl;exact⟨rfl,rfl,rfl⟩))
   (by
    have ht:=p74 L n L.length
    rw[lt_no]at ht
    exact Tri.seen g0 (callsOne rfl rfl clN39) KOK.none rfl (congrArg T.run ht) (by
     intro q hq;simp only[st74,List.mem_cons,List.not_mem_nil,or_false]at hq
     rcases hq with rfl|rfl|rfl<;>rfl))
  have hS:(askS [AV.lst (4:Nat) (List.map tyH.elem L) Tl.open_,AV.int IntKind.i64 n,AV.int IntKind.i64 (0:Int)]
 [AV.lst (4:Nat) (List.map tyH.elem L) Tl.open_,AV.int IntKind.i64 n,AV.int IntKind.i64 (↑(0:Nat):Int)] [] [])=true:=askS_self _ _
  rw[hR]
  cases hf:firstI (fun j=>handE (L.getD j tyH.zero) n≠0) L.length with
  |some i=>
   rw[hf]at hT;have hk:KOK E0 51 [] (bodyOf Tryz.f85) (kAt [1,1,0,1] (st74 L n 0) [] .ret [(4, .int .i64 (handE (L.getD i tyH.zero) n))] []):=kAt_ok (Tri.block (id:=0) (Tri.loop hT));exact fin hk ((congrArg T.run (p74s L n _)).trans (bF (decide_eq_false (by rw[hlen];omega)) (bT hS rfl)))
  |none=>
   rw[hf]at hT;have hk:KOK E0 51 [] (bodyOf Tryz.f85) (kAt [1,1,0,1] (st74 L n 0) [] .normal (st74 L n L.length) []):=kAt_ok (Tri.block (id:=0) (Tri.loop hT));exact fin hk ((congrArg T.run (p74n L n)).trans (bF (decide_eq_false (by rw[hlen];omega)) (bT hS rfl)))
noncomputable def X124b:SX:={E:=E0,f:=132,con:=fun _=>false,split:=fun d=> [9,16].contains d,call:=callsRun [(108,XN 108 [],Tryz.f108,bodyOf Tryz.f108)]}
noncomputable def X103(L:List tyI.I)(r:Int):SX:={E:=E0,f:=107,con:=fun _=>false,split:=fun _=>false,call:=callsAt [(132,[encL tyI L, .clo 108 [] []], .int .i64 r)]}
noncomputable def X71(C:List tyC.I)(a2:Int)(a3:List tyI.I)(a4:List tyH.I)(p e r:Int)(b:Bool):SX:={E:=E0,f:=80,con:=fun _=>false,split:=fun d=> [17,21].contains d,call:=callsAt [(106,[encL tyI a3,encL tyC C, .int .i64 a2], .tup [.int .i64 p, .int .i64 e]),(107,[encL tyI a3, .clo 108 [] []], .bool b),(109,[encL tyH a4, .int .i64 (((a3.map tyI.elem).length:Nat):Int)], .int .i64 r)]}
theorem p124b(L:List tyI.I)(m i:Int):obsK X124b (fun _=>none) 19 (sub (bodyOf Tryz.f132) [1,0,1,0,0]) [1,0,1,0,0] (frm [(0,encL tyI L),(1, .clo 108 [] []),(7, .int .i64 m),(8, .int .i64 i)]) [] [0,1,4,7,8]=
 (T.br (decide (i<m)) (T.br (decide ((0:Int)≤i)&&decide (i<(↑(List.map tyI.elem L).length:Int))&&fitsC Tryz.prog (61:Nat) ((List.map tyI.elem L).getD i.toNat undef)) (T.br (decide ((((List.map tyI.elem L).getD i.toNat undef).cells.getD 0 undef).toI=(45:Int))) (T.leaf ((X.ret,[AV.lst 2 (List.map tyI.elem L) Tl.open_,AV.clo 108 [] [],AV.int IntKind.i64 i,AV.int IntKind.i64 m,
 AV.int IntKind.i64 i],[Blk.var [AV.int IntKind.i64 (((List.map tyI.elem L).getD i.toNat undef).cells.getD 0 undef).toI,AV.int IntKind.i64 (((List.map tyI.elem L).getD i.toNat undef).cells.getD 1 undef).toI]]))) (T.leaf ((X.normal,[AV.lst 2 (List.map tyI.elem L) Tl.open_,AV.clo 108 [] [],AV.fsl 0 [],AV.int IntKind.i64 m,AV.int IntKind.i64 (IntKind.i64.wrap (i+1))],[Blk.var [AV.int
 IntKind.i64 (((List.map tyI.elem L).getD i.toNat undef).cells.getD 0 undef).toI,AV.int IntKind.i64 (((List.map tyI.elem L).getD i.toNat undef).cells.getD 1 undef).toI]])))) T.fail) (T.leaf ((X.exit 0,[AV.lst 2 (List.map tyI.elem L) Tl.open_,AV.clo 108 [] [],AV.fsl 0 [],AV.int IntKind.i64 m,AV.int IntKind.i64 i],[])))):=by kernel_rfl
theorem p124bs(L:List tyI.I)(j:Nat):runV (XN 132 [9,16]) (kAt [1,0,1] (st124 L (.clo 108 [] []) 0) [] .ret (rt124 j) []) Tryz.f132 (bodyOf Tryz.f132) [encL tyI L, .clo 108 [] []]=
 (T.br (askS [AV.lst 2 (List.map tyI.elem L) Tl.open_,AV.clo (108:Nat) [] [],AV.int IntKind.i64 (↑(List.map tyI.elem L).length:Int),AV.int IntKind.i64 (0:Int)] [AV.lst 2 (List.map tyI.elem L) Tl.open_,AV.clo (108:Nat) [] [],AV.int IntKind.i64 (↑(List.map tyI.elem L).length:Int),AV.int IntKind.i64 (↑(0:Nat):Int)] [] []) (T.leaf (AV.int IntKind.i64 (↑j:Int))) T.fail):=by kernel_rfl
theorem p124bn(L:List tyI.I):runV (XN 132 [9,16]) (kAt [1,0,1] (st124 L (.clo 108 [] []) 0) [] .normal (st124 L (.clo 108 [] []) L.length) []) Tryz.f132 (bodyOf Tryz.f132) [encL tyI L, .clo 108 [] []]=
 (T.br (askS [AV.lst 2 (List.map tyI.elem L) Tl.open_,AV.clo (108:Nat) [] [],AV.int IntKind.i64 (↑(List.map tyI.elem L).length:Int),AV.int IntKind.i64 (0:Int)] [AV.lst 2 (List.map tyI.elem L) Tl.open_,AV.clo (108:Nat) [] [],AV.int IntKind.i64 (↑(List.map tyI.elem L).length:Int),AV.int IntKind.i64 (↑(0:Nat):Int)] [] []) (T.leaf (AV.int IntKind.i64 (-1))) T.fail):=by kernel_rfl
theorem p103(L:List tyI.I)(r:Int):runV (X103 L r) (fun _=>none) Tryz.f107 (bodyOf Tryz.f107) [encL tyI L, .clo 108 [] []]=
 (T.br (askS [AV.lst 2 (List.map tyI.elem L) Tl.open_,AV.clo (108:Nat) [] []] [AV.lst 2 (List.map tyI.elem L) Tl.open_,AV.clo (108:Nat) [] []] [] []) (T.leaf (AV.bool (decide (0≤r)))) T.fail):=by kernel_rfl
theorem p71(C:List tyC.I)(a0 a1:ByteArray)(a2:Int)(a3:List tyI.I)(a4:List tyH.I)(p e r:Int)(b:Bool):runV (X71 C a2 a3 a4 p e r b) (fun _=>none) Tryz.f80 (bodyOf Tryz.f80) [.agg [.str a0, .str a1, .int .i64 a2,encL tyI a3,encL tyH a4],encL tyC C]=
 (T.br (askS [AV.lst 2 (List.map tyI.elem a3) Tl.open_,AV.lst 5 (List.map tyC.elem C) Tl.open_,AV.int IntKind.i64 a2] [AV.lst 2 (List.map tyI.elem a3) Tl.open_,AV.lst 5 (List.map tyC.elem C) Tl.open_,AV.int IntKind.i64 a2] [] []) (T.br (!decide (e=(0:Int))) (T.leaf (AV.int IntKind.i64 e)) (T.br (askS [AV.lst 2 (List.map tyI.elem a3) Tl.open_,AV.clo (108:Nat) [] []] [AV.lst 2 (List.map
 tyI.elem a3) Tl.open_,AV.clo (108:Nat) [] []] [] []) (T.br (b) (T.leaf (AV.int IntKind.i64 12)) (T.br (askS [AV.lst 4 (List.map tyH.elem a4) Tl.open_,AV.int IntKind.i64 (↑(List.map tyI.elem a3).length:Int)] [AV.lst 4 (List.map tyH.elem a4) Tl.open_,AV.int IntKind.i64 (↑(List.map tyI.elem a3).length:Int)] [] []) (T.leaf (AV.int IntKind.i64 r)) T.fail)) T.fail)) T.fail):=by kernel_rfl
def isOld(L:List tyI.I)(j:Nat):Prop:=((tyI.elem (L.getD j tyI.zero)).cells.getD 0 undef).toI=45
noncomputable def oldAt(L:List tyI.I):Int:=placeOf (firstI (isOld L) L.length)
theorem calls124b:CallOK X124b.E X124b.calls:=callsRun_ok rfl fun r hr=>by
 obtain rfl:=List.mem_singleton.1 hr;exact⟨g0,noCalls fun _ _ _=>rfl,rfl,Tryz.func108,rfl,rfl⟩
theorem con124b(L:List tyI.I)(hl:L.length<1000000000000000)(h:H):Con E0 132 [encL tyI L, .clo 108 [] []] h (.int .i64 (oldAt L)) h:=by
 have f0:fitsC Tryz.prog 61 (tyI.elem tyI.zero)=true:=by kernel_rfl
 have hn:noRefs [encL tyI L, .clo 108 [] []]=true:=by simp only[noRefs,encL_noRef,Bool.and_true];rfl
 have fin: ∀{K:Known} {v:Int},KOK E0 19 [] (bodyOf Tryz.f132) K→(runV (XN 132 [9,16]) K Tryz.f132 (bodyOf Tryz.f132) [encL tyI L, .clo 108 [] []]).run= .ok (.int .i64 v)→Con E0 132 [encL tyI L, .clo 108 [] []] h (.int .i64 v) h:=fun hk hr=>
  Con.pureV (X:=XN 132 [9,16]) g0 noG0 (noCalls fun _ _ _=>rfl) (fn:=Tryz.f132) Tryz.func132 (c:=bodyOf Tryz.f132) rfl rfl (args:= [encL tyI L, .clo 108 [] []]) hk hn hr (Le.refl _) rfl h
 have hS:(askS
 [AV.lst (2:Nat) (List.map tyI.elem L) Tl.open_,AV.clo (108:Nat) [] [],
  AV.int IntKind.i64 (↑(List.map tyI.elem L).length:Int),AV.int IntKind.i64 (0:Int)]
 [AV.lst (2:Nat) (List.map tyI.elem L) Tl.open_,AV.clo (108:Nat) [] [],
  AV.int IntKind.i64 (↑(List.map tyI.elem L).length:Int),AV.int IntKind.i64 (↑(0:Nat):Int)]
 [] [])=true:=askS_self _ _
 have hT:=find_rounds (E:=E0) (N:=19) (h0:= []) (c:=sub (bodyOf Tryz.f132) [1,0,1,0,0]) (p:=isOld L) (n:=L.length) (st:=st124 L (.clo 108 [] [])) (hm:= []) (rt:=rt124) (id:=0)
  (fun j hj hp=>by
   have ht:=p124b L (((L.map tyI.elem).length:Nat):Int) j
   have hp':decide (((tyI.elem (L.getD j tyI.zero)).cells.getD 0 undef).toI=45)=false:=decide_eq_false hp;rw[idx_ok hj f0,lt_ok hj,Int.toNat_natCast,getD_elem hj,wrap_next (by omega),hp']at ht
   exact Tri.seen0 g0 noG0 calls124b KOK.none rfl (congrArg T.run ht) (by
    intro q hq;simp only[st124,List.mem_cons,List.not_mem_nil,or_false]at hq
    rcases hq with rfl|rfl|rfl|rfl<;>exact⟨rfl,by first|exact encL_noRef _ _|rfl,rfl⟩))
  (fun j hj hp=>by
   have ht:=p124b L (((L.map tyI.elem).length:Nat):Int) j
   have hp':decide (((tyI.elem (L.getD j tyI.zero)).cells.getD 0 undef).toI=45)=true:=decide_eq_true hp;rw[idx_ok hj f0,lt_ok hj,Int.toNat_natCast,getD_elem hj,hp']at ht
   exact Tri.seen0 g0 noG0 calls124b KOK.none rfl (congrArg T.run ht) (by
    intro q hq;simp only[rt124,List.mem_cons,List.not_mem_nil,or_false]at hq
    rcases hq with rfl;exact⟨rfl,rfl,rfl⟩))
  (by
   have ht:=p124b L (((L.map tyI.elem).length:Nat):Int) L.length
   rw[lt_no]at ht
   exact Tri.seen0 g0 noG0 calls124b KOK.none rfl (congrArg T.run ht) (by
    intro q hq;simp only[st124,List.mem_cons,List.not_mem_nil,or_false]at hq
    rcases hq with rfl|rfl|rfl|rfl<;>exact⟨rfl,by first|exact encL_noRef _ _|rfl,rfl⟩))
 unfold oldAt
 cases hf:firstI (isOld L) L.length with
 |some i=>
  rw[hf]at hT;have hk:KOK E0 19 [] (bodyOf Tryz.f132) (kAt [1,0,1] (st124 L (.clo 108 [] []) 0) [] .ret (rt124 i) []):=kAt_ok (Tri.block (id:=0) (Tri.loop hT));exact fin hk ((congrArg T.run (p124bs L i)).trans (bT hS rfl))
 |none=>
  rw[hf]at hT;have hk:KOK E0 19 [] (bodyOf Tryz.f132) (kAt [1,0,1] (st124 L (.clo 108 [] []) 0) [] .normal (st124 L (.clo 108 [] []) L.length) []):=kAt_ok (Tri.block (id:=0) (Tri.loop hT));exact fin hk ((congrArg T.run (p124bn L)).trans (bT hS rfl))
theorem con103(L:List tyI.I)(hl:L.length<1000000000000000)(h:H):Con E0 107 [encL tyI L, .clo 108 [] []] h (.bool (decide (0≤oldAt L))) h:=by
 have hn:noRefs [encL tyI L, .clo 108 [] []]=true:=by simp only[noRefs,encL_noRef,Bool.and_true];rfl
 have hcall:CallOK (X103 L (oldAt L)).E (X103 L (oldAt L)).calls:=callsAt_ok rfl fun q hq h=>by
  obtain rfl:=List.mem_singleton.1 hq;exact con124b L hl h
 exact Con.pureV (X:=X103 L (oldAt L)) g0 noG0 hcall (fn:=Tryz.f107) Tryz.func107 (c:=bodyOf Tryz.f107) rfl rfl (args:= [encL tyI L, .clo 108 [] []]) KOK.none hn ((congrArg T.run (p103 L (oldAt L))).trans (bS rfl)) (Le.refl _) rfl h
noncomputable def codeE(C:List tyC.I)(n:Int)(L:List tyI.I)(K:List tyH.I):Int:=
 if(checkR L C n).2≠0 then(checkR L C n).2 else if 0≤oldAt L then 12 else handsE K (((L.map tyI.elem).length:Nat):Int)
theorem con71(C:List tyC.I)(a0 a1:ByteArray)(a2:Int)(a3:List tyI.I)(a4:List tyH.I)(l3:a3.length<1000000000000000)(l4:a4.length<1000000000000000)(o4: ∀x,x∈a4→tyH.okay x)(h:H):
  Con E0 80 [tyM.elem (a0,a1,a2,a3,a4),encL tyC C] h (.int .i64 (codeE C a2 a3 a4)) h:=by
 have hn:noRefs [tyM.elem (a0,a1,a2,a3,a4),encL tyC C]=true:=by
  have:=noRefs1 tyM (a0,a1,a2,a3,a4)
  simp only[noRefs,Bool.and_true]at this ⊢
  rw[this,encL_noRef];rfl
 obtain⟨p,hp⟩: ∃p,p=(checkR a3 C a2).1:=⟨_,rfl⟩;obtain⟨e,he⟩: ∃e,e=(checkR a3 C a2).2:=⟨_,rfl⟩
 have hcall:CallOK (X71 C a2 a3 a4 p e (handsE a4 (((a3.map tyI.elem).length:Nat):Int)) (decide (0≤oldAt a3))).E (X71 C a2 a3 a4 p e (handsE a4 (((a3.map tyI.elem).length:Nat):Int)) (decide (0≤oldAt a3))).calls:=callsAt_ok rfl fun q hq h=>by
  rcases List.mem_cons.1 hq with rfl|hq
  ·rw[hp,he];exact con102 a3 C a2 l3 h
  rcases List.mem_cons.1 hq with rfl|hq
  ·exact con103 a3 l3 h
  obtain rfl:=List.mem_singleton.1 hq;exact con105 a4 _ l4 o4 h
 refine Con.pureV (X:=X71 C a2 a3 a4 p e (handsE a4 (((a3.map tyI.elem).length:Nat):Int)) (decide (0≤oldAt a3))) g0 noG0 hcall (fn:=Tryz.f80) Tryz.func80 (c:=bodyOf Tryz.f80) rfl rfl (args:= [tyM.elem (a0,a1,a2,a3,a4),encL tyC C]) KOK.none hn ((congrArg T.run (p71 C a0 a1 a2 a3 a4 p e _ _)).trans (bS ?_)) (Le.refl _) rfl h;unfold codeE;rw[←he]
 by_cases h0:e=0
 ·rw[if_neg (fun h=>h h0)]
  refine bF (by rw[decide_eq_true h0];rfl) (bS ?_)
  by_cases h1:0≤oldAt a3
  ·rw[if_pos h1];exact bT (decide_eq_true h1) rfl
  ·rw[if_neg h1];exact bF (decide_eq_false h1) (bS rfl)
 ·rw[if_pos h0]
  exact bT (by rw[decide_eq_false h0];rfl) rfl
end Go.Proofs.YtaooangghieljaaGreatDoor.AM
