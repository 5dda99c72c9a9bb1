/- Texts of this claim, put together. -/
import Derived.Test.YthnajefdiljneaaDoorM6
import Derived.Test.YthnajefdiljneaaDoorProg
import Derived.Test.YthnajefdiljneaaDoorM3
section
-- SQUEEZED
/- Kinds of instructions, and whether code can be, by the program and by the document, as contracts of the symbolic machine. -/
namespace Go.Proofs.YthnajefdiljneaaDoor.AM
open Go Go.Proofs Go.RowKit
set_option linter.unusedVariables false
set_option linter.unusedSimpArgs false
abbrev tyC:Ty:=(.pair (.int .i64) (.pair (.int .i64) (.pair (.str) (.pair (.str) (.str)))))
abbrev tyF:Ty:=(.pair (.str) (.str))
abbrev tyI:Ty:=(.pair (.int .i64) (.int .i64))
abbrev tyH:Ty:=(.pair (.int .i64) (.pair (.int .i64) (.pair (.int .i64) (.str))))
abbrev tyM:Ty:= .pair .str (.pair .str (.pair (.int .i64) (.pair (.slice tyI) (.slice tyH))))
abbrev tyK:Ty:= .pair .str (.pair .str (.pair (.slice tyC) (.pair (.slice tyF) (.slice tyM))))
noncomputable def E0:Env:={P:=Tryd.prog,C:=fun _ _=>none,G:=fun _=>none,M:=1000,L:=fun _ _=>false,LC:=fun _=>false,S:=fun t=>!Tryd.prog.stoodInHeld t}
def kNo(p:List Nat):Known:=fun q=>if q=p then some (fun _ _=> .fail)else none
noncomputable def bodyOf(fn:Func):Code:=(fn.body).getD .skip
noncomputable def XN(f:FuncId)(sp:List Nat):SX:={E:=E0,f:=f,con:=fun _=>false,split:=fun d=>sp.contains d,call:=fun _ _ _=> .fail}
noncomputable def XC(f:FuncId)(sp:List Nat)(cs:List Cl):SX:={E:=E0,f:=f,con:=fun _=>false,split:=fun d=>sp.contains d,call:=callsBy cs}
theorem g0:Ground E0:=⟨fun t h=>by simpa [E0]using h,cok_none (fun _ _=>rfl),bok_none (fun _=>rfl),by kernel_rfl⟩
theorem noG0: ∀i cs,E0.G i=some cs→noRefs cs=true:=by
 intro i cs h;cases h
theorem kNo_ok{E:Env}{N:Nat}{hb:H}{b:Code}{p:List Nat}:KOK E N hb b (kNo p):=by
 intro q k hk τ h y τ' h1 hr;simp only[kNo]at hk;split at hk
 ·cases hk;cases hr
 ·cases hk
end Go.Proofs.YthnajefdiljneaaDoor.AM
end
section
-- SQUEEZED
/- Names, types and signatures: by the print's contracts and the plain laws; handlers and code. -/
namespace Go.Proofs.YthnajefdiljneaaDoor.AM
open Go Go.Proofs Go.RowKit
open Go.Proofs.YthnajefdiljneaaDoor
set_option linter.unusedVariables false
set_option linter.unusedSimpArgs false
def tl(s:ByteArray):List UInt8:=s.data.toList
theorem mk_tl(s:ByteArray):Go.Proofs.PL.mk (tl s)=s:=by cases s;simp[Go.Proofs.PL.mk,tl]
theorem tl_len(s:ByteArray):(tl s).length=s.size:=rfl
end Go.Proofs.YthnajefdiljneaaDoor.AM
end
section
-- SQUEEZED
/- Where fields and methods stand; whether they can be, by the program. -/
namespace Go.Proofs.YthnajefdiljneaaDoor.AM
open Go Go.Proofs Go.RowKit
set_option linter.unusedVariables false
set_option linter.unusedSimpArgs false
end Go.Proofs.YthnajefdiljneaaDoor.AM
end
section
-- SQUEEZED
/- Whether a method can be, by the document; numbers, texts and constants as bytes. -/
namespace Go.Proofs.YthnajefdiljneaaDoor.AM
open Go Go.Proofs Go.RowKit
open Go.Proofs.YthnajefdiljneaaDoor
set_option linter.unusedVariables false
set_option linter.unusedSimpArgs false
theorem getD_mem{α:Type}{l:List α}{i:Nat}{d:α}(h:i<l.length):l.getD i d∈l:=by
 rw[List.getD_eq_getElem?_getD,List.getElem?_eq_getElem h];exact List.getElem_mem h
theorem first_lt{p:Nat→Prop}{n i:Nat}(hi:i<n)(hp:p i):(placeOf (firstI p n)<(i:Int))↔ ∃k,k<i∧p k:=by
 cases hf:firstI p n with
 |none=>exact absurd hp (firstI_none hf i hi)
 |some j=>
  obtain⟨h1,h2,h3⟩:=firstI_some hf;show((j:Int)<(i:Int))↔_;constructor
  ·intro h;exact⟨j,by omega,h2⟩
  ·rintro⟨k,hk,hpk⟩
   rcases Nat.lt_or_ge j i with h|h
   ·omega
   ·exact absurd hpk (h3 k (by omega))
noncomputable def X66:SX:={E:=E0,f:=43,con:=fun _=>false,split:=fun _=>false,call:=callsRun [(63,XN 63 [15],Tryd.f63,bodyOf Tryd.f63),(67,XN 67 [],Tryd.f67,bodyOf Tryd.f67)]}
noncomputable def X94:SX:={E:=E0,f:=45,con:=fun _=>false,split:=fun _=>false,call:=callsRun [(43,X66,Tryd.f43,bodyOf Tryd.f43)]}
noncomputable def E12:Env:={E0 with M:=12}
noncomputable def X53:SX:={E:=E12,f:=23,con:=fun _=>false,split:=fun d=> [14,22].contains d,call:=fun _ _ _=> .fail}
noncomputable def X51:SX:={E:=E12,f:=24,con:=fun _=>false,split:=fun _=>false,call:=callsRun [(23,X53,Tryd.f23,bodyOf Tryd.f23)]}
noncomputable def kTx(s:ByteArray)(t h:Nat):AV→T AV
 | .lst 1 l (.own _)=> .br (room l.length (ofBytes s).length (ofBytes s)) (.leaf (.lst 1 (l++ofBytes s) (.own t))) .fail
 | .lst 1 l _=> .br (room l.length (ofBytes s).length (ofBytes s)) (.br (ofBytes s).isEmpty (.leaf (.lst 1 l .clip)) (.leaf (.lst 1 (l++ofBytes s) (.own h)))) .fail
 | .nils=> .br (room 0 (ofBytes s).length (ofBytes s)) (.br (ofBytes s).isEmpty (.leaf .nils) (.leaf (.lst 1 (ofBytes s) (.own h)))) .fail
 |_=> .fail
theorem p66(bs:List AV)(n:Int):runV X66 (fun _=>none) Tryd.f43 (bodyOf Tryd.f43) [.lst 1 bs .open_, .int .i64 n]=putP (fun v=> .leaf v) bs 10 [] (zigP n):=by kernel_rfl
theorem p94(bs:List AV)(s:ByteArray):runV X94 (fun _=>none) Tryd.f45 (bodyOf Tryd.f45) [.lst 1 bs .open_, .str s]=putP (kTx s 4 3) bs 10 [] (zigP (s.size:Int)):=by kernel_rfl
theorem p53(bs:List AV)(n:Int):runV X53 (fun _=>none) Tryd.f23 (bodyOf Tryd.f23) [.lst 1 bs .open_, .int .i64 n]=putR (fun v _=> .leaf v) bs n 12:=by kernel_rfl
theorem p51(bs:List AV)(s:ByteArray):runV X51 (fun _=>none) Tryd.f24 (bodyOf Tryd.f24) [.lst 1 bs .open_, .str s]=putR (fun v h=>kTx s h h v) bs (s.size:Int) 12:=by kernel_rfl
theorem gX12:Ground E12:=⟨fun t h=>by simpa [E12,E0]using h,cok_none (fun _ _=>rfl),bok_none (fun _=>rfl),by kernel_rfl⟩
theorem runs1{X Y:SX}{g:FuncId}{fn:Func}(hx:X.call=callsRun [(g,Y,fn,bodyOf fn)])(hE:Y.E=X.E)(gy:Ground Y.E)(hc:CallOK Y.E Y.calls)(hf:X.E.P.funcs[g]?=some fn)(hb:fn.body=some (bodyOf fn))(hn:(fn.name== "runtime.NumGoroutine")=false):CallOK X.E X.calls:=
 callsRun_ok hx fun r hr=>by
  obtain rfl:=List.mem_singleton.1 hr;exact⟨gy,hc,hE,hf,hb,hn⟩
theorem ok66:CallOK X66.E X66.calls:=callsRun_ok rfl fun r hr=>by
 rcases List.mem_cons.1 hr with rfl|hr
 ·exact⟨g0,noCalls fun _ _ _=>rfl,rfl,Tryd.func63,rfl,rfl⟩
 ·obtain rfl:=List.mem_singleton.1 hr
  exact⟨g0,noCalls fun _ _ _=>rfl,rfl,Tryd.func67,rfl,rfl⟩
theorem ok94:CallOK X94.E X94.calls:=runs1 rfl rfl g0 ok66 Tryd.func43 rfl rfl
theorem ok53:CallOK X53.E X53.calls:=noCalls fun _ _ _=>rfl
theorem ok51:CallOK X51.E X51.calls:=runs1 rfl rfl gX12 ok53 Tryd.func23 rfl rfl
theorem refs2{bs:List AV}(hb:IsB bs){v:AV}(hv:noRef v=true):noRefs [.lst 1 bs .open_,v]=true:=by
 simp only[noRefs,noRef,hb.noRefs,hv,Bool.and_true]
theorem refB{bs:List AV}(hb:IsB bs):noRef (.lst 1 bs .open_)=true:=by simp only[noRef,hb.noRefs,Bool.and_true]
theorem con66(bs:List AV)(n:Int)(hb:IsB bs)(hl:bs.length≤190000000000000)(h0: -9223372036854775808≤n)(h1:n<9223372036854775808)(h:H):Con E0 43 [.lst 1 bs .open_, .int .i64 n] h (.lst 1 (bs++numB n) .open_) h:=by
 obtain⟨z0,z1⟩:=zig_range h0 h1
 have h70:(18446744073709551616:Int)<128 ^ 10:=by decide
 have hr:(runV X66 (fun _=>none) Tryd.f43 (bodyOf Tryd.f43) [.lst 1 bs .open_, .int .i64 n]).run= .ok (.lst 1 (bs++numB n) (.own 3)):=by
  rw[p66,zigP_eq n h0 h1];exact putP_run 10 [] _ z0 (by omega) (by decide) (by simp;omega) IsB.nil rfl
 exact Con.pureV (X:=X66) g0 noG0 ok66 (fn:=Tryd.f43) Tryd.func43 (c:=bodyOf Tryd.f43) rfl rfl (args:= [.lst 1 bs .open_, .int .i64 n]) KOK.none (refs2 hb rfl) hr Le.open_ (refB (hb.append (numB_isB n))) h
theorem con53(bs:List AV)(n:Int)(hb:IsB bs)(hl:bs.length≤190000000000000)(h0: -9223372036854775808≤n)(h1:n<9223372036854775808)(h:H):Con E0 23 [.lst 1 bs .open_, .int .i64 n] h (.lst 1 (bs++numB n) .open_) h:=by
 obtain⟨k,hk⟩:=putR_run (K:=fun v _=> .leaf v) hb hl h0 h1
 have hv:(runV X53 (fun _=>none) Tryd.f23 (bodyOf Tryd.f23) [.lst 1 bs .open_, .int .i64 n]).run= .ok (.lst 1 (bs++numB n) (.own (k+1))):=by rw[p53,hk];rfl
 exact Con.env (E:=E12) rfl rfl (Con.pureV (X:=X53) gX12 noG0 ok53 (fn:=Tryd.f23) Tryd.func23 (c:=bodyOf Tryd.f23) rfl rfl (args:= [.lst 1 bs .open_, .int .i64 n]) KOK.none (refs2 hb rfl) hv Le.open_ (refB (hb.append (numB_isB n))) h)
theorem con94(bs:List AV)(s:ByteArray)(hb:IsB bs)(hl:bs.length+s.size≤190000000000000)(h:H):Con E0 45 [.lst 1 bs .open_, .str s] h (.lst 1 (bs++txB s) .open_) h:=by
 obtain⟨z0,z1⟩:=zig_range (n:=(s.size:Int)) (by omega) (by omega)
 have h70:(18446744073709551616:Int)<128 ^ 10:=by decide
 have hn:=numB_len (s.size:Int)
 have hr:(runV X94 (fun _=>none) Tryd.f45 (bodyOf Tryd.f45) [.lst 1 bs .open_, .str s]).run= .ok (.lst 1 (bs++txB s) (.own 4)):=by
  rw[p94,zigP_eq _ (by omega) (by omega)]
  refine putP_run 10 [] _ z0 (by omega) (by decide) (by simp;omega) IsB.nil ?_
  show(kTx s 4 3 (.lst 1 (bs++numB (s.size:Int)) (.own 3))).run=_
  refine bT (room_ok (by rw[List.length_append,ofBytes_len];omega) (ofBytes_isB s)) ?_
  rw[List.append_assoc];rfl
 exact Con.pureV (X:=X94) g0 noG0 ok94 (fn:=Tryd.f45) Tryd.func45 (c:=bodyOf Tryd.f45) rfl rfl (args:= [.lst 1 bs .open_, .str s]) KOK.none (refs2 hb rfl) hr Le.open_ (refB (hb.append (txB_isB s))) h
theorem con51(bs:List AV)(s:ByteArray)(hb:IsB bs)(hl:bs.length+s.size≤190000000000000)(h:H):Con E0 24 [.lst 1 bs .open_, .str s] h (.lst 1 (bs++txB s) .open_) h:=by
 obtain⟨k,hk⟩:=putR_run (K:=fun v h=>kTx s h h v) (n:=(s.size:Int)) hb (by omega) (by omega) (by omega)
 have hn:=numB_len (s.size:Int)
 have hv:(runV X51 (fun _=>none) Tryd.f24 (bodyOf Tryd.f24) [.lst 1 bs .open_, .str s]).run= .ok (.lst 1 (bs++txB s) (.own (k+2))):=by
  rw[p51,hk]
  refine bT (room_ok (by rw[List.length_append,ofBytes_len];omega) (ofBytes_isB s)) ?_
  rw[List.append_assoc];rfl
 exact Con.env (E:=E12) rfl rfl (Con.pureV (X:=X51) gX12 noG0 ok51 (fn:=Tryd.f24) Tryd.func24 (c:=bodyOf Tryd.f24) rfl rfl (args:= [.lst 1 bs .open_, .str s]) KOK.none (refs2 hb rfl) hv Le.open_ (refB (hb.append (txB_isB s))) h)
end Go.Proofs.YthnajefdiljneaaDoor.AM
namespace Go.Proofs.PL
open Go Go.RowKit Go.Proofs.YthnajefdiljneaaDoorW.PrintWords Go.Proofs.YthnajefdiljneaaDoor.Q
theorem gOk_30{g:List UInt8}(h:gOk g=true):g.length≤30:=by
 unfold gOk at h
 rcases Bool.or_eq_true _ _▸h with h|h
 ·have:g= [86]:=by simpa using h
  rw[this];decide
 ·exact(rightB_len h).2
theorem flat_30: ∀(us:List (List UInt8)),us.all rightB=true→us.flatten.length≤us.length*30
 | [],_=>by simp
 |x::us,h=>by
  simp only[List.all_cons,Bool.and_eq_true]at h;have:=flat_30 us h.2;have:=(rightB_len h.1).2;simp only[List.flatten_cons,List.length_append,List.length_cons];omega
theorem sig_212{us:List (List UInt8)}{g l:List UInt8}(h:sigB g us=(l,0)):l.length≤212:=by
 unfold sigB at h;split at h
 ·simp at h
 ·rename_i h6
  split at h
  ·rename_i h2
   simp only[Bool.and_eq_true]at h2;simp only[Prod.mk.injEq,and_true]at h;rw[←h];have:=flat_30 us h2.1;have:=gOk_30 h2.2;simp only[sigTx,List.length_cons,List.length_append];omega
  ·simp at h
def Fit(kind n:Int)(s t u:List UInt8):Prop:=
 (kind=1∧s= []∧t= []∧u= [])∨(kind=2∧n=0∧t= []∧u= []∧s.length≤64)∨(kind=3∧n=0∧t= []∧u= []∧s.length≤256)∨
 ((kind=4∨kind=5)∧n=0∧s.length≤256∧t.length≤256∧u.length≤256)
theorem isEmpty_mk(l:List UInt8):(mk l).toList.isEmpty=true↔l= []:=by rw[toList_mk];simp
theorem poolRight_ev(kind n:Int)(s t u:List UInt8)(hs:s.length≤9223372036854775806)(ht:t.length≤9223372036854775806)(hu:u.length≤9223372036854775806):
  ∃b:Bool,Ev (fun k=>pool_Right.f k kind n (mk s) (mk t) (mk u)) b∧(b=true→Fit kind n s t u):=by
 unfold pool_Right.f
 by_cases h1:kind=1
 ·refine⟨_,Ev.pos h1 (Ev.pure rfl),fun h=> .inl ⟨h1,?_⟩⟩
  simp only[Bool.and_eq_true,isEmpty_mk]at h;exact h
 by_cases h23:kind=2∨kind=3
 ·by_cases he:(n==0&&((mk t).toList.isEmpty&&(mk u).toList.isEmpty))=true
  ·have he':=he
   simp only[Bool.and_eq_true,isEmpty_mk,beq_iff_eq]at he'
   by_cases h2:kind=2
   ·refine⟨decide (s.length≤64),Ev.neg h1 (Ev.pos h23 (Ev.pos he (Ev.pos h2 (Ev.pure (by rw[size_mk]))))),fun h=> .inr (.inl ⟨h2,he'.1,he'.2.1,he'.2.2,by simpa using h⟩)⟩
   ·refine⟨rightB s,Ev.neg h1 (Ev.pos h23 (Ev.pos he (Ev.neg h2 (right_ev s hs)))),fun h=> .inr (.inr (.inl ⟨by omega,he'.1,he'.2.1,he'.2.2,by have:=(rightB_len h).2;omega⟩))⟩
  ·exact⟨false,Ev.neg h1 (Ev.pos h23 (Ev.neg he (Ev.pure rfl))),fun h=>by cases h⟩
 by_cases h45:kind=4∨kind=5
 ·obtain⟨us,g,e,i1,_,i3⟩:=split_both u hu
  have hok: ∃ok:Bool,Ev (fun k=>if kind=4 then desc_Right.f k (mk u)else some (decide (e=0))) ok∧(ok=true→u.length≤256):=by
   by_cases h4:kind=4
   ·exact⟨rightB u,Ev.pos h4 (right_ev u hu),fun h=>by have:=(rightB_len h).2;omega⟩
   ·refine⟨decide (e=0),Ev.neg h4 (Ev.pure rfl),fun h=>?_⟩
    rcases i3 with⟨_,hq⟩|⟨he,_⟩
    ·have:=sig_212 hq;omega
    ·rw[he]at h;simp at h
  obtain⟨ok,hok,hl⟩:=hok
  have base: ∀b,Ev (fun k=>if ok=true then(if n=0 then(bin_Name.f k (mk s)).bind fun n=>if n=true then bin_Name.f k (mk t)else some false else some false)else some false) b→
    Ev (fun k=>if kind=1 then some ((mk s).toList.isEmpty&&((mk t).toList.isEmpty&&(mk u).toList.isEmpty))else if kind=2∨kind=3 then(if(n==0&&((mk t).toList.isEmpty&&(mk u).toList.isEmpty))=true then(if kind=2 then some (decide ((mk s).size≤64))else desc_Right.f k (mk s))else some false)
     else if kind=4∨kind=5 then(desc_Split.f k (mk u)).bind fun sp=>(if kind=4 then desc_Right.f k (mk u)else some (decide (sp.2.2=0))).bind fun ok=>if ok=true then(if n=0 then(bin_Name.f k (mk s)).bind fun n=>if n=true then bin_Name.f k (mk t)else some false else some false)else some false
     else some false) b:=fun b h=>Ev.neg h1 (Ev.neg h23 (Ev.pos h45 (Ev.bind i1 (Ev.bind hok h))))
  cases ok with
  |false=>exact⟨false,base _ (Ev.neg (by decide) (Ev.pure rfl)),fun h=>by cases h⟩
  |true=>
   by_cases hn:n=0
   ·cases hns:nameB s with
    |false=>exact⟨false,base _ (Ev.pos rfl (Ev.pos hn (Ev.bind (hns▸binName s hs) (Ev.neg (by decide) (Ev.pure rfl))))),fun h=>by cases h⟩
    |true=>
     refine⟨nameB t,base _ (Ev.pos rfl (Ev.pos hn (Ev.bind (hns▸binName s hs) (Ev.pos rfl (binName t ht))))),fun h=> .inr (.inr (.inr ⟨h45,hn,by have:=(nameB_le hns).2;omega,by have:=(nameB_le h).2;omega,hl rfl⟩))⟩
   ·exact⟨false,base _ (Ev.pos rfl (Ev.neg hn (Ev.pure rfl))),fun h=>by cases h⟩
 ·exact⟨false,Ev.neg h1 (Ev.neg h23 (Ev.neg h45 (Ev.pure rfl))),fun h=>by cases h⟩
theorem Ev_same{α:Type}{f:Nat→Option α}{a b:α}(h:Ev f a)(h':Ev f b):a=b:=by
 obtain⟨k,hk⟩:=h;obtain⟨k',hk'⟩:=h'
 have h1:=hk (max k k') (Nat.le_max_left _ _)
 have h2:=hk' (max k k') (Nat.le_max_right _ _)
 rw[h1]at h2;exact Option.some.inj h2
end Go.Proofs.PL
namespace Go.Proofs.YthnajefdiljneaaDoor.AM
open Go Go.Proofs Go.RowKit
open Go.Proofs.YthnajefdiljneaaDoor
def fit5(a0:Int)(a2 a3 a4:ByteArray):Prop:=a0=1∨((a0=2∨a0=3)∧a2.size≤256)∨((a0=4∨a0=5)∧a2.size≤256∧a3.size≤256∧a4.size≤256)
def fitC:tyC.I→Prop:=fun(a0,_,a2,a3,a4)=>fit5 a0 a2 a3 a4
def form5(a0 a1:Int)(a2 a3 a4:ByteArray):Prop:=(a0=1∧a2=⟨#[]⟩∧a3=⟨#[]⟩∧a4=⟨#[]⟩)∨(a0=2∧a1=0∧a3=⟨#[]⟩∧a4=⟨#[]⟩∧a2.size≤64)∨(a0=3∧a1=0∧a3=⟨#[]⟩∧a4=⟨#[]⟩∧a2.size≤256)∨((a0=4∨a0=5)∧a1=0∧a2.size≤256∧a3.size≤256∧a4.size≤256)
def formC:tyC.I→Prop:=fun(a0,a1,a2,a3,a4)=>form5 a0 a1 a2 a3 a4
theorem tl_nil{s:ByteArray}(h:tl s= []):s=⟨#[]⟩:=by rw[←mk_tl s,h];rfl
def GoodSp(c:tyC.I)(b:Bool):Prop:=(∀h,Con E0 8 [tyC.elem c] h (.bool b) h)∧(∀h,Con E0 9 [tyC.elem c] h (.bool b) h)∧(b=true→fitC c∧formC c)
set_option maxRecDepth 100000 in
theorem good_raw(a0 a1:Int)(a2 a3 a4:ByteArray)(s2:a2.size≤140737488351232)(s3:a3.size≤140737488351232)(s4:a4.size≤140737488351232):
  ∃b:Bool,(∀h,Con E0 8 [.agg [.int .i64 a0, .int .i64 a1, .str a2, .str a3, .str a4]] h (.bool b) h)∧(∀h,Con E0 9 [.agg [.int .i64 a0, .int .i64 a1, .str a2, .str a3, .str a4]] h (.bool b) h)∧(b=true→fit5 a0 a2 a3 a4∧form5 a0 a1 a2 a3 a4):=by
 obtain⟨b,⟨k1,h1⟩,⟨k2,h2⟩⟩:=Go.Proofs.PL.right_both a0 a1 (tl a2) (tl a3) (tl a4) (by rw[tl_len];omega) (by rw[tl_len];omega) (by rw[tl_len];omega);obtain⟨b',h3,h4⟩:=Go.Proofs.PL.poolRight_ev a0 a1 (tl a2) (tl a3) (tl a4) (by rw[tl_len];omega) (by rw[tl_len];omega) (by rw[tl_len];omega);have hb:b=b':=Go.Proofs.PL.Ev_same ⟨k1,h1⟩ h3
 have e1:=h1 k1 (Nat.le_refl _)
 have e2:=h2 k2 (Nat.le_refl _)
 simp only[mk_tl]at e1 e2;have hp:Pins [.agg #[.int .i64 a0, .int .i64 a1, .string a2, .string a3, .string a4]] [.agg [.int .i64 a0, .int .i64 a1, .str a2, .str a3, .str a4]]:= .cons (Pin.agg (xs:= [.int .i64 a0, .int .i64 a1, .string a2, .string a3, .string a4]) (.cons (Pin.int _ _) (.cons (Pin.int _ _) (.cons (Pin.str _) (.cons (Pin.str _) (.cons (Pin.str _) .nil)))))) .nil;refine⟨b,fun h=>?_,fun h=>?_,fun hb'=>?_⟩
 ·exact Con.of_calls hp (v:= .bool b) (fun _ _ _=> .bool _) (enters_of Tryd.func8 (by kernel_rfl) rfl _) (fun w=>Q.pool_Right.calls k1 a0 a1 a2 a3 a4 b w e1) h
 ·exact Con.of_calls hp (v:= .bool b) (fun _ _ _=> .bool _) (enters_of Tryd.func9 (by kernel_rfl) rfl _) (fun w=>Q.hornbookref03_Right.calls k2 a0 a1 a2 a3 a4 b w e2) h
 ·have hf:=h4 (hb▸hb')
  simp only[Go.Proofs.PL.Fit,tl_len]at hf
  rcases hf with⟨h,e2,e3,e4⟩|⟨h,h1,e3,e4,hs⟩|⟨h,h1,e3,e4,hs⟩|⟨h,h1,hs,ht,hu⟩
  ·exact⟨.inl h, .inl ⟨h,tl_nil e2,tl_nil e3,tl_nil e4⟩⟩
  ·exact⟨.inr (.inl ⟨.inl h,by omega⟩), .inr (.inl ⟨h,h1,tl_nil e3,tl_nil e4,hs⟩)⟩
  ·exact⟨.inr (.inl ⟨.inr h,hs⟩), .inr (.inr (.inl ⟨h,h1,tl_nil e3,tl_nil e4,hs⟩))⟩
  ·exact⟨.inr (.inr ⟨h,hs,ht,hu⟩), .inr (.inr (.inr ⟨h,h1,hs,ht,hu⟩))⟩
theorem good_ex(c:tyC.I)(hc:tyC.okay c): ∃b,GoodSp c b:=by
 obtain⟨a0,a1,a2,a3,a4⟩:=c;exact good_raw a0 a1 a2 a3 a4 hc.2.2.1 hc.2.2.2.1 hc.2.2.2.2
noncomputable def goodC(c:tyC.I):Bool:=by
 classical exact if h: ∃b,GoodSp c b then h.choose else false
theorem goodC_sp(c:tyC.I)(hc:tyC.okay c):GoodSp c (goodC c):=by
 unfold goodC;rw[dif_pos (good_ex c hc)];exact(good_ex c hc).choose_spec
noncomputable def goodA(args:List AV):Bool:=by
 classical exact if h: ∃v:Bool,∃c:tyC.I,args= [tyC.elem c]∧v=goodC c then h.choose else false
theorem goodA_eq(c:tyC.I):goodA [tyC.elem c]=goodC c:=by
 have h: ∃v:Bool,∃c':tyC.I,[tyC.elem c]= [tyC.elem c']∧v=goodC c':=⟨_,c,rfl,rfl⟩;unfold goodA;rw[dif_pos h];obtain⟨c',h1,h2⟩:=h.choose_spec;rw[h2];simp only[List.cons.injEq,and_true]at h1;rw[Ty.elem_inj h1]
noncomputable def clG(f:FuncId):Cl:=⟨f,okE1 tyC,fun args=> .bool (goodA args)⟩
theorem clG67: ∀args,(clG 8).ok args→ ∀h,Con E0 (clG 8).f args h ((clG 8).res args) h:=by
 rintro args ⟨c,rfl,hc⟩ h;show Con E0 8 _ h (.bool (goodA [tyC.elem c])) h;rw[goodA_eq];exact(goodC_sp c hc).1 h
theorem clG61: ∀args,(clG 9).ok args→ ∀h,Con E0 (clG 9).f args h ((clG 9).res args) h:=by
 rintro args ⟨c,rfl,hc⟩ h;show Con E0 9 _ h (.bool (goodA [tyC.elem c])) h;rw[goodA_eq];exact(goodC_sp c hc).2.1 h
def okPu(args:List AV):Prop:= ∃(bs:List AV) (n:Int),args= [.lst 1 bs .open_, .int .i64 n]∧IsB bs∧bs.length≤190000000000000∧ -9223372036854775808≤n∧n<9223372036854775808
def resPu:List AV→AV
 | [.lst _ bs _, .int _ n]=> .lst 1 (bs++numB n) .open_
 |_=>undef
def okTe(args:List AV):Prop:= ∃(bs:List AV) (s:ByteArray),args= [.lst 1 bs .open_, .str s]∧IsB bs∧bs.length+s.size≤190000000000000
def resTe:List AV→AV
 | [.lst _ bs _, .str s]=> .lst 1 (bs++txB s) .open_
 |_=>undef
noncomputable def clPu(f:FuncId):Cl:=⟨f,okPu,resPu⟩
noncomputable def clTe(f:FuncId):Cl:=⟨f,okTe,resTe⟩
noncomputable def X68:SX:={E:=E0,f:=22,con:=fun _=>false,split:=fun d=> [14,32].contains d,call:=fun f args h=>if f==38 then callsRun [(38,XN 38 [4,6,9],Tryd.f38,bodyOf Tryd.f38)] f args h else callsBy [clPu 43,clTe 45] f args h}
theorem p68(bs:List AV)(a0 a1:Int)(a2 a3 a4:ByteArray):runV X68 (fun _=>none) Tryd.f22 (bodyOf Tryd.f22) [.lst 1 bs .open_, .agg [.int .i64 a0, .int .i64 a1, .str a2, .str a3, .str a4]]=
 ((fun(s0:T AV)=>((fun(s1:T AV)=>((fun(s2:T AV)=>((fun(s3:T AV)=>((fun(s4:T AV)=>(T.br (askQ okPu [AV.lst 1 bs Tl.open_,AV.int IntKind.i64 a0]) (T.br (decide (a0=(1:Int))) (T.br (askQ okPu [AV.lst 1 (bs++numB a0) Tl.open_,AV.int IntKind.i64 a1]) (T.leaf (AV.lst 1 (bs++numB a0++numB a1) Tl.open_)) T.fail) (T.br (decide (a0=(1:Int))) (T.br false (T.br false s4
 T.fail) (T.leaf (AV.lst 1 (bs++numB a0) Tl.open_))) (T.br (decide (a0=(2:Int))) (T.br true (T.br true s4 T.fail) (T.leaf (AV.lst 1 (bs++numB a0) Tl.open_))) (T.br (decide (a0=(3:Int))) (T.br true (T.br true s4 T.fail) (T.leaf (AV.lst 1 (bs++numB a0) Tl.open_))) (T.br (decide (a0=(4:Int))) (T.br true (T.br true s2 T.fail) (T.leaf (AV.lst 1 (bs++numB a0) Tl.open_))) (T.br (decide
 (a0=(5:Int))) (T.br true (T.br true s2 T.fail) (T.leaf (AV.lst 1 (bs++numB a0) Tl.open_))) T.fail)))))) T.fail)) (T.br (askQ okTe [AV.lst 1 (bs++numB a0) Tl.open_,AV.str a2]) (T.br false (T.br false s3 T.fail) (T.leaf (AV.lst 1 (bs++numB a0++txB a2) Tl.open_))) T.fail))) (T.br (askQ okTe [AV.lst 1 (bs++numB a0++txB a2) Tl.open_,AV.str a3]) (T.br false (T.br false s0 T.fail)
 (T.leaf (AV.lst 1 (bs++numB a0++txB a2++txB a3) Tl.open_))) T.fail))) (T.br (askQ okTe [AV.lst 1 (bs++numB a0) Tl.open_,AV.str a2]) (T.br true (T.br true s1 T.fail) (T.leaf (AV.lst 1 (bs++numB a0++txB a2) Tl.open_))) T.fail))) (T.br (askQ okTe [AV.lst 1 (bs++numB a0++txB a2) Tl.open_,AV.str a3]) (T.br true (T.br true s0 T.fail) (T.leaf (AV.lst 1 (bs++numB a0++txB a2++txB a3)
 Tl.open_))) T.fail))) (T.br (askQ okTe [AV.lst 1 (bs++numB a0++txB a2++txB a3) Tl.open_,AV.str a4]) (T.br false (T.br false T.fail T.fail) (T.leaf (AV.lst 1 (bs++numB a0++txB a2++txB a3++txB a4) Tl.open_))) T.fail)):=by kernel_rfl
noncomputable def csL:List Cl:= [clTe 24]
noncomputable def EL:Env:={E0 with C:=lightC csL,LC:=fun f=>f==24}
noncomputable def X88:SX:={E:=EL,f:=7,con:=fun _=>false,split:=fun d=> [9,16,22].contains d,call:=callsBy [clG 9,clPu 23,clTe 24],lit:=fun f=>f==24}
theorem p88(bs:List AV)(a0 a1:Int)(a2 a3 a4:ByteArray):runV X88 (fun _=>none) Tryd.f7 (bodyOf Tryd.f7) [.lst 1 bs .open_, .agg [.int .i64 a0, .int .i64 a1, .str a2, .str a3, .str a4]]=
 (T.br (askQ (okE1 tyC) [AV.agg [AV.int IntKind.i64 a0,AV.int IntKind.i64 a1,AV.str a2,AV.str a3,AV.str a4]]) (T.br (!goodA [AV.agg [AV.int IntKind.i64 a0,AV.int IntKind.i64 a1,AV.str a2,AV.str a3,AV.str a4]]) (T.leaf (AV.tup [AV.nils,AV.int IntKind.i64 11])) (T.br (askQ okPu [AV.lst 1 bs Tl.open_,AV.int IntKind.i64 a0]) (T.br (decide (a0=(1:Int))) (T.br (askQ okPu [AV.lst 1 (bs++
 numB a0) Tl.open_,AV.int IntKind.i64 a1]) (T.leaf (AV.tup [AV.lst 1 (bs++numB a0++numB a1) Tl.open_,AV.int IntKind.i64 0])) T.fail) (T.br (decide (a0=(2:Int))) (T.br (askQ okTe [AV.lst 1 (bs++numB a0) Tl.open_,AV.str a2]) (T.br (askL EL (24:Nat) [AV.lst 1 (bs++numB a0) Tl.open_,AV.str a2] (AV.lst 1 (bs++numB a0++txB a2) Tl.open_)) (T.leaf (AV.tup [AV.lst 1 (bs++numB a0++
 txB a2) Tl.open_,AV.int IntKind.i64 0])) T.fail) T.fail) (T.br (decide (a0=(3:Int))) (T.br (askQ okTe [AV.lst 1 (bs++numB a0) Tl.open_,AV.str a2]) (T.br (askL EL (24:Nat) [AV.lst 1 (bs++numB a0) Tl.open_,AV.str a2] (AV.lst 1 (bs++numB a0++txB a2) Tl.open_)) (T.leaf (AV.tup [AV.lst 1 (bs++numB a0++txB a2) Tl.open_,AV.int IntKind.i64 0])) T.fail) T.fail) (T.br (askQ okTe [AV.lst
 1 (bs++numB a0) Tl.open_,AV.str a2]) (T.br (askL EL (24:Nat) [AV.lst 1 (bs++numB a0) Tl.open_,AV.str a2] (AV.lst 1 (bs++numB a0++txB a2) Tl.open_)) (T.br (askQ okTe [AV.lst 1 (bs++numB a0++txB a2) Tl.open_,AV.str a3]) (T.br (askL EL (24:Nat) [AV.lst 1 (bs++numB a0++txB a2) Tl.open_,AV.str a3] (AV.lst 1 (bs++numB a0++txB a2++txB a3) Tl.open_)) (T.br (askQ okTe [AV.lst 1
 (bs++numB a0++txB a2++txB a3) Tl.open_,AV.str a4]) (T.br (askL EL (24:Nat) [AV.lst 1 (bs++numB a0++txB a2++txB a3) Tl.open_,AV.str a4] (AV.lst 1 (bs++numB a0++txB a2++txB a3++txB a4) Tl.open_)) (T.leaf (AV.tup [AV.lst 1 (bs++numB a0++txB a2++txB a3++txB a4) Tl.open_,AV.int IntKind.i64 0])) T.fail) T.fail) T.fail) T.fail) T.fail) T.fail)))) T.fail)) T.fail):=by kernel_rfl
section
noncomputable def pick{α β:Type}(z:β)(enc:α→List AV)(f:α→β)(args:List AV):β:=by
 classical exact if h: ∃v:β,∃x:α,args=enc x∧v=f x then h.choose else z
theorem pick_eq{α β:Type}{z:β}{enc:α→List AV}{f:α→β}(hi: ∀x y,enc x=enc y→x=y)(x:α):pick z enc f (enc x)=f x:=by
 have h: ∃v:β,∃y:α,enc x=enc y∧v=f y:=⟨_,x,rfl,rfl⟩;unfold pick;rw[dif_pos h];obtain⟨y,h1,h2⟩:=h.choose_spec;rw[h2,hi x y h1]
end
def con5(a0 a1:Int)(a2 a3 a4:ByteArray):List AV:=if a0=1 then numB a0++numB a1 else if a0=2∨a0=3 then numB a0++txB a2 else numB a0++(txB a2++(txB a3++txB a4))
def conB:tyC.I→List AV:=fun(a0,a1,a2,a3,a4)=>con5 a0 a1 a2 a3 a4
theorem con5_isB(a0 a1:Int)(a2 a3 a4:ByteArray):IsB (con5 a0 a1 a2 a3 a4):=by
 unfold con5;split
 ·exact(numB_isB _).append (numB_isB _)
 split
 ·exact(numB_isB _).append (txB_isB _)
 ·exact(numB_isB _).append ((txB_isB _).append ((txB_isB _).append (txB_isB _)))
theorem con5_len{a0 a1:Int}{a2 a3 a4:ByteArray}(h:fit5 a0 a2 a3 a4):(con5 a0 a1 a2 a3 a4).length≤1000:=by
 have n0:=numB_len a0
 have n1:=numB_len a1
 have t2:=txB_len a2
 have t3:=txB_len a3
 have t4:=txB_len a4
 unfold con5;split
 ·simp only[List.length_append];omega
 rename_i h1;split
 ·rename_i h2
  have:a2.size≤256:=by rcases h with h|⟨_,h⟩|⟨h,_⟩<;>omega
  simp only[List.length_append];omega
 ·rename_i h2
  obtain⟨_,s2,s3,s4⟩:_∧a2.size≤256∧a3.size≤256∧a4.size≤256:=by
   rcases h with h|⟨h,_⟩|h
   ·exact absurd h h1
   ·exact absurd h h2
   ·exact h
  simp only[List.length_append];omega
theorem conB_isB(c:tyC.I):IsB (conB c):=by obtain⟨a0,a1,a2,a3,a4⟩:=c;exact con5_isB _ _ _ _ _
theorem conB_len{c:tyC.I}(h:fitC c):(conB c).length≤1000:=by obtain⟨a0,a1,a2,a3,a4⟩:=c;exact con5_len h
theorem i64_range{n:Int}(h:(Ty.int .i64).okay n): -9223372036854775808≤n∧n<9223372036854775808:=by
 have h':(Lit.int .i64 n).wf=true:=h;simp only[Lit.wf,Bool.and_eq_true,decide_eq_true_eq,show IntKind.i64.min= -9223372036854775808 from rfl,show IntKind.i64.max=9223372036854775807 from rfl]at h';omega
theorem clPu66: ∀args,(clPu 43).ok args→ ∀h,Con E0 (clPu 43).f args h ((clPu 43).res args) h:=by
 rintro args ⟨bs,n,rfl,hb,hl,h0,h1⟩ h;exact con66 bs n hb hl h0 h1 h
theorem clPu53: ∀args,(clPu 23).ok args→ ∀h,Con E0 (clPu 23).f args h ((clPu 23).res args) h:=by
 rintro args ⟨bs,n,rfl,hb,hl,h0,h1⟩ h;exact con53 bs n hb hl h0 h1 h
theorem clTe94: ∀args,(clTe 45).ok args→ ∀h,Con E0 (clTe 45).f args h ((clTe 45).res args) h:=by
 rintro args ⟨bs,s,rfl,hb,hl⟩ h;exact con94 bs s hb hl h
theorem clTe51: ∀args,(clTe 24).ok args→ ∀h,Con E0 (clTe 24).f args h ((clTe 24).res args) h:=by
 rintro args ⟨bs,s,rfl,hb,hl⟩ h;exact con51 bs s hb hl h
theorem noF_te: ∀args,noF (resTe args)=true:=by
 intro args;unfold resTe
 split<;>rfl
theorem okPu_of{bs:List AV}{n:Int}(hb:IsB bs)(hl:bs.length≤180000000000000)(h: -9223372036854775808≤n∧n<9223372036854775808):okPu [.lst 1 bs .open_, .int .i64 n]:=⟨bs,n,rfl,hb,by omega,h.1,h.2⟩
theorem okTe_of{bs:List AV}{s:ByteArray}(hb:IsB bs)(hl:bs.length≤180000000000000)(h:s.size≤256):okTe [.lst 1 bs .open_, .str s]:=⟨bs,s,rfl,hb,by omega⟩
theorem ok68:CallOK X68.E X68.calls:=by
 intro f args h r h' hc;have hc':((if f==38 then callsRun [(38,XN 38 [4,6,9],Tryd.f38,bodyOf Tryd.f38)] f args h else callsBy [clPu 43,clTe 45] f args h):T (AV×H)).run= .ok (r,h'):=hc;split at hc'
 ·exact callsRun_ok (X:={E:=E0,f:=22,con:=fun _=>false,split:=fun _=>false,call:=callsRun [(38,XN 38 [4,6,9],Tryd.f38,bodyOf Tryd.f38)]}) rfl (fun r hr=>by
   obtain rfl:=List.mem_singleton.1 hr
   exact⟨g0,noCalls fun _ _ _=>rfl,rfl,Tryd.func38,rfl,rfl⟩) f args h r h' hc'
 ·exact callsBy_ok (X:=XC 22 [] [clPu 43,clTe 45]) rfl (fun c hc=>by
   rcases List.mem_cons.1 hc with rfl|hc
   ·exact clPu66
   ·obtain rfl:=List.mem_singleton.1 hc
    exact clTe94) f args h r h' hc'
theorem lay_raw(bs:List AV)(a0 a1:Int)(a2 a3 a4:ByteArray)(hb:IsB bs)(hl:bs.length≤170000000000000)(r0: -9223372036854775808≤a0∧a0<9223372036854775808)(r1: -9223372036854775808≤a1∧a1<9223372036854775808)(hf:fit5 a0 a2 a3 a4)(h:H):
  Con E0 22 [.lst 1 bs .open_, .agg [.int .i64 a0, .int .i64 a1, .str a2, .str a3, .str a4]] h (.lst 1 (bs++con5 a0 a1 a2 a3 a4) .open_) h:=by
 have n0:=numB_len a0
 have t2:=txB_len a2
 have t3:=txB_len a3
 have b0:=hb.append (numB_isB a0)
 have b2:=b0.append (txB_isB a2)
 have b3:=b2.append (txB_isB a3)
 have k0:=okPu_of hb (by omega) r0
 have hr:(runV X68 (fun _=>none) Tryd.f22 (bodyOf Tryd.f22) [.lst 1 bs .open_, .agg [.int .i64 a0, .int .i64 a1, .str a2, .str a3, .str a4]]).run= .ok (.lst 1 (bs++con5 a0 a1 a2 a3 a4) .open_):=by
  rw[p68]
  rcases hf with h1|⟨h23,s2⟩|⟨h45,s2,s3,s4⟩
  ·have e:bs++con5 a0 a1 a2 a3 a4=bs++numB a0++numB a1:=by unfold con5;rw[if_pos h1,List.append_assoc]
   rw[e];exact bA (bT (decide_eq_true h1) (bA rfl (okPu_of b0 (by simp only[List.length_append];omega) r1))) k0
  ·have h1: ¬a0=1:=by omega
   have e:bs++con5 a0 a1 a2 a3 a4=bs++numB a0++txB a2:=by unfold con5;rw[if_neg h1,if_pos h23,List.append_assoc]
   have k2:okTe [.lst 1 (bs++numB a0) .open_, .str a2]:=okTe_of b0 (by simp only[List.length_append];omega) s2;rw[e];refine bA (bF (decide_eq_false h1) (bF (decide_eq_false h1) ?_)) k0
   by_cases h2:a0=2
   ·exact bT (decide_eq_true h2) (bT rfl (bT rfl (bA (bF rfl rfl) k2)))
   ·exact bF (decide_eq_false h2) (bT (decide_eq_true (by omega)) (bT rfl (bT rfl (bA (bF rfl rfl) k2))))
  ·have h1: ¬a0=1:=by omega
   have h2: ¬a0=2:=by omega
   have h3: ¬a0=3:=by omega
   have e:bs++con5 a0 a1 a2 a3 a4=bs++numB a0++txB a2++txB a3++txB a4:=by unfold con5;rw[if_neg h1,if_neg (fun h=>h.elim h2 h3)];simp only[List.append_assoc]
   have k2:okTe [.lst 1 (bs++numB a0) .open_, .str a2]:=okTe_of b0 (by simp only[List.length_append];omega) s2;have k3:okTe [.lst 1 (bs++numB a0++txB a2) .open_, .str a3]:=okTe_of b2 (by simp only[List.length_append];omega) s3;have k4:okTe [.lst 1 (bs++numB a0++txB a2++txB a3) .open_, .str a4]:=okTe_of b3 (by simp only[List.length_append];omega) s4;rw[e];refine bA (bF (decide_eq_false h1) (bF (decide_eq_false h1) (bF (decide_eq_false h2) (bF (decide_eq_false h3) ?_)))) k0
   by_cases h4:a0=4
   ·exact bT (decide_eq_true h4) (bT rfl (bT rfl (bA (bT rfl (bT rfl (bA (bT rfl (bT rfl (bA (bF rfl rfl) k4))) k3))) k2)))
   ·exact bF (decide_eq_false h4) (bT (decide_eq_true (by omega)) (bT rfl (bT rfl (bA (bT rfl (bT rfl (bA (bT rfl (bT rfl (bA (bF rfl rfl) k4))) k3))) k2))))
 exact Con.pureV (X:=X68) g0 noG0 ok68 (fn:=Tryd.f22) Tryd.func22 (c:=bodyOf Tryd.f22) rfl rfl (args:= [.lst 1 bs .open_, .agg [.int .i64 a0, .int .i64 a1, .str a2, .str a3, .str a4]]) KOK.none (refs2 hb rfl) hr (Le.refl _) (refB (hb.append (con5_isB _ _ _ _ _))) h
theorem gL:Ground EL:=⟨fun t h=>by simpa [EL,E0]using h,lightC_ok rfl (fun c hc args ha h=>by
 obtain rfl:=List.mem_singleton.1 hc
 exact Con.env (E:=E0) (E':=EL) rfl rfl (clTe51 args ha h)) (fun c hc=>by
 obtain rfl:=List.mem_singleton.1 hc
 exact noF_te),bok_none (fun _=>rfl),by kernel_rfl⟩
theorem ok88:CallOK X88.E X88.calls:=callsBy_ok rfl fun c hc args ha h=>Con.env (E:=E0) (E':=EL) rfl rfl (by
 rcases List.mem_cons.1 hc with rfl|hc
 ·exact clG61 args ha h
 rcases List.mem_cons.1 hc with rfl|hc
 ·exact clPu53 args ha h
 ·obtain rfl:=List.mem_singleton.1 hc
  exact clTe51 args ha h)
theorem put_raw(bs:List AV)(a0 a1:Int)(a2 a3 a4:ByteArray)(hb:IsB bs)(hl:bs.length≤170000000000000)(hc:tyC.okay (a0,a1,a2,a3,a4))(h:H):
  Con E0 7 [.lst 1 bs .open_,tyC.elem (a0,a1,a2,a3,a4)] h (match goodC (a0,a1,a2,a3,a4)with
   |true=> .tup [.lst 1 (bs++con5 a0 a1 a2 a3 a4) .open_, .int .i64 0]
   |false=> .tup [.lst 1 [] .open_, .int .i64 11]) h:=by
 have r0: -9223372036854775808≤a0∧a0<9223372036854775808:=i64_range hc.1;have r1: -9223372036854775808≤a1∧a1<9223372036854775808:=i64_range hc.2.1
 have hsp:=fun hg=>((goodC_sp (a0,a1,a2,a3,a4) hc).2.2 hg).1
 have hg:goodA [.agg [.int .i64 a0, .int .i64 a1, .str a2, .str a3, .str a4]]=goodC (a0,a1,a2,a3,a4):=goodA_eq (a0,a1,a2,a3,a4);have kg:okE1 tyC [.agg [.int .i64 a0, .int .i64 a1, .str a2, .str a3, .str a4]]:=⟨(a0,a1,a2,a3,a4),rfl,hc⟩
 have n0:=numB_len a0
 have t2:=txB_len a2
 have t3:=txB_len a3
 have b0:=hb.append (numB_isB a0)
 have b2:=b0.append (txB_isB a2)
 have b3:=b2.append (txB_isB a3)
 have k0:=okPu_of hb (by omega) r0
 have fin: ∀{v r:AV},(runV X88 (fun _=>none) Tryd.f7 (bodyOf Tryd.f7) [.lst 1 bs .open_, .agg [.int .i64 a0, .int .i64 a1, .str a2, .str a3, .str a4]]).run= .ok v→Le v r→noRef r=true→Con E0 7 [.lst 1 bs .open_,tyC.elem (a0,a1,a2,a3,a4)] h r h:=fun hr hl hn=>
  Con.env (E:=EL) rfl rfl (Con.pureV (X:=X88) gL noG0 ok88 (fn:=Tryd.f7) Tryd.func7 (c:=bodyOf Tryd.f7) rfl rfl (args:= [.lst 1 bs .open_, .agg [.int .i64 a0, .int .i64 a1, .str a2, .str a3, .str a4]]) KOK.none (refs2 hb rfl) hr hl hn h)
 cases hq:goodC (a0,a1,a2,a3,a4)with
 |false=>
  refine fin (v:= .tup [.nils, .int .i64 11]) ?_ (Le.tup (.cons (Le.nils nofun) (.cons (Le.refl _) .nil))) rfl
  rw[p88,hg,hq];exact bA (bT rfl rfl) kg
 |true=>
  have hrf:noRef (.tup [.lst 1 (bs++con5 a0 a1 a2 a3 a4) .open_, .int .i64 0])=true:=by
   have:=refB (hb.append (con5_isB a0 a1 a2 a3 a4))
   simp only[noRef,noRefs,Bool.and_true]at this ⊢
   rw[this]
  refine fin (v:= .tup [.lst 1 (bs++con5 a0 a1 a2 a3 a4) .open_, .int .i64 0]) ?_ (Le.refl _) hrf
  rw[p88,hg,hq];refine bA (bF rfl (bA ?_ k0)) kg
  have hT: ∀{b:List AV} {s:ByteArray} {t f:T AV} {x:R AV},okTe [.lst 1 b .open_, .str s]→t.run=x→(T.br (askQ okTe [.lst 1 b .open_, .str s]) (T.br (askL EL 24 [.lst 1 b .open_, .str s] (.lst 1 (b++txB s) .open_)) t f) f).run=x:=fun hk ht=>
   bA (bL (cs:=csL) (c:=clTe 24) rfl rfl hk rfl rfl ht) hk
  rcases hsp hq with h1|⟨h23,s2⟩|⟨h45,s2,s3,s4⟩
  ·have e:bs++con5 a0 a1 a2 a3 a4=bs++numB a0++numB a1:=by unfold con5;rw[if_pos h1,List.append_assoc]
   rw[e];exact bT (decide_eq_true h1) (bA rfl (okPu_of b0 (by simp only[List.length_append];omega) r1))
  ·have h1: ¬a0=1:=by omega
   have e:bs++con5 a0 a1 a2 a3 a4=bs++numB a0++txB a2:=by unfold con5;rw[if_neg h1,if_pos h23,List.append_assoc]
   have k2:okTe [.lst 1 (bs++numB a0) .open_, .str a2]:=okTe_of b0 (by simp only[List.length_append];omega) s2;rw[e]
   refine bF (decide_eq_false h1) ?_
   by_cases h2:a0=2
   ·exact bT (decide_eq_true h2) (hT k2 rfl)
   ·exact bF (decide_eq_false h2) (bT (decide_eq_true (by omega)) (hT k2 rfl))
  ·have h1: ¬a0=1:=by omega
   have h2: ¬a0=2:=by omega
   have h3: ¬a0=3:=by omega
   have e:bs++con5 a0 a1 a2 a3 a4=bs++numB a0++txB a2++txB a3++txB a4:=by unfold con5;rw[if_neg h1,if_neg (fun h=>h.elim h2 h3)];simp only[List.append_assoc]
   have k2:okTe [.lst 1 (bs++numB a0) .open_, .str a2]:=okTe_of b0 (by simp only[List.length_append];omega) s2;have k3:okTe [.lst 1 (bs++numB a0++txB a2) .open_, .str a3]:=okTe_of b2 (by simp only[List.length_append];omega) s3;have k4:okTe [.lst 1 (bs++numB a0++txB a2++txB a3) .open_, .str a4]:=okTe_of b3 (by simp only[List.length_append];omega) s4;rw[e];exact bF (decide_eq_false h1) (bF (decide_eq_false h2) (bF (decide_eq_false h3) (hT k2 (hT k3 (hT k4 rfl)))))
def enc2(p:List AV×tyC.I):List AV:= [.lst 1 p.1 .open_,tyC.elem p.2]
theorem enc2_inj(x y:List AV×tyC.I)(h:enc2 x=enc2 y):x=y:=by
 obtain⟨a,b⟩:=x;obtain⟨c,d⟩:=y;simp only[enc2,List.cons.injEq,AV.lst.injEq,true_and,and_true]at h;rw[h.1,Ty.elem_inj h.2]
noncomputable def layA:List AV→List AV:=pick [] enc2 fun p=>p.1++conB p.2
noncomputable def putQ:List AV→List AV:=pick [] enc2 fun p=>match goodC p.2 with
 |true=>p.1++conB p.2
 |false=> []
def okLay(args:List AV):Prop:= ∃(bs:List AV) (c:tyC.I),args= [.lst 1 bs .open_,tyC.elem c]∧IsB bs∧bs.length≤170000000000000∧tyC.okay c∧fitC c
def okR3(args:List AV):Prop:= ∃(bs:List AV) (c:tyC.I),args= [.lst 1 bs .open_,tyC.elem c]∧IsB bs∧bs.length≤170000000000000∧tyC.okay c
noncomputable def clY:Cl:=⟨22,okLay,fun args=> .lst 1 (layA args) .open_⟩
noncomputable def clQ:Cl:=⟨7,okR3,fun args=> .tup [.lst 1 (putQ args) .open_, .int .i64 (match goodA (args.drop 1)with|true=>0|false=>11)]⟩
theorem layA_eq(bs:List AV)(c:tyC.I):layA [.lst 1 bs .open_,tyC.elem c]=bs++conB c:=pick_eq enc2_inj (bs,c)
theorem putA_eq(bs:List AV)(c:tyC.I):putQ [.lst 1 bs .open_,tyC.elem c]=(match goodC c with|true=>bs++conB c|false=> []):=pick_eq enc2_inj (bs,c)
theorem clY68: ∀args,clY.ok args→ ∀h,Con E0 clY.f args h (clY.res args) h:=by
 rintro args ⟨bs,c,rfl,hb,hl,hc,hf⟩ h;show Con E0 22 _ h (.lst 1 (layA [.lst 1 bs .open_,tyC.elem c]) .open_) h;rw[layA_eq];obtain⟨a0,a1,a2,a3,a4⟩:=c;exact lay_raw bs a0 a1 a2 a3 a4 hb hl (i64_range hc.1) (i64_range hc.2.1) hf h
theorem clQ88: ∀args,clQ.ok args→ ∀h,Con E0 clQ.f args h (clQ.res args) h:=by
 rintro args ⟨bs,c,rfl,hb,hl,hc⟩ h;show Con E0 7 _ h (.tup [.lst 1 (putQ [.lst 1 bs .open_,tyC.elem c]) .open_, .int .i64 (match goodA [tyC.elem c]with|true=>0|false=>11)]) h;rw[putA_eq,goodA_eq];obtain⟨a0,a1,a2,a3,a4⟩:=c;have:=put_raw bs a0 a1 a2 a3 a4 hb hl hc h
 cases hq:goodC (a0,a1,a2,a3,a4)with
 |true=>rw [hq]at this;exact this
 |false=>rw [hq]at this;exact this
end Go.Proofs.YthnajefdiljneaaDoor.AM
end
section
-- SQUEEZED
/- Many constants as bytes; whether a class can be. -/
namespace Go.Proofs.YthnajefdiljneaaDoor.AM
open Go Go.Proofs Go.RowKit
set_option linter.unusedVariables false
set_option linter.unusedSimpArgs false
def st62(L:List tyC.I)(j:Nat):List (Nat×AV):= [(0,encL tyC L),(3, .ptr 0 0),(5, .int .i64 j)]
theorem p62(L:List tyC.I)(a0 a1:Int)(a2 a3 a4:ByteArray)(i:Int):obsK (XN 44 [9,17]) (fun _=>none) 19 (sub (bodyOf Tryd.f44) [1,0,1,0,0]) [1,0,1,0,0] (frm [(0,encL tyC L),(3, .ptr 0 0),(5, .int .i64 i)]) [.var [.int .i64 a0, .int .i64 a1, .str a2, .str a3, .str a4]] [0,3,4,5]=
 (T.br (decide (i<(↑(List.map tyC.elem L).length:Int))) (T.br (decide ((0:Int)≤i)&&decide (i<(↑(List.map tyC.elem L).length:Int))&&fitsC Tryd.prog (24:Nat) ((List.map tyC.elem L).getD i.toNat undef)) (T.br ((((List.map tyC.elem L).getD i.toNat undef).cells.getD 0 undef).toI==a0&&((((List.map tyC.elem L).getD i.toNat undef).cells.getD 1 undef).toI==a1&&((((List.map tyC.elem
 L).getD i.toNat undef).cells.getD 2 undef).toS==a2&&((((List.map tyC.elem L).getD i.toNat undef).cells.getD 3 undef).toS==a3&&((((List.map tyC.elem L).getD i.toNat undef).cells.getD 4 undef).toS==a4&&true))))) (T.leaf ((X.ret,[AV.lst 5 (List.map tyC.elem L) Tl.open_,AV.ptr 0 0,AV.int IntKind.i64 i,AV.int IntKind.i64 i],[Blk.var [AV.int IntKind.i64 a0,AV.int IntKind.i64 a1,AV.str
 a2,AV.str a3,AV.str a4]]))) (T.leaf ((X.normal,[AV.lst 5 (List.map tyC.elem L) Tl.open_,AV.ptr 0 0,AV.fsl 0 [],AV.int IntKind.i64 (IntKind.i64.wrap (i+1))],[Blk.var [AV.int IntKind.i64 a0,AV.int IntKind.i64 a1,AV.str a2,AV.str a3,AV.str a4]])))) T.fail) (T.leaf ((X.exit 0,[AV.lst 5 (List.map tyC.elem L) Tl.open_,AV.ptr 0 0,AV.fsl 0 [],AV.int IntKind.i64 i],[Blk.var [AV.int
 IntKind.i64 a0,AV.int IntKind.i64 a1,AV.str a2,AV.str a3,AV.str a4]])))):=by kernel_rfl
theorem p62s(L:List tyC.I)(a0 a1:Int)(a2 a3 a4:ByteArray)(j:Nat):runV (XN 44 [9,17]) (kAt [1,0,1] (st62 L 0) [.var [.int .i64 a0, .int .i64 a1, .str a2, .str a3, .str a4]] .ret [(4, .int .i64 j)] [.var [.int .i64 a0, .int .i64 a1, .str a2, .str a3, .str a4]]) Tryd.f44 (bodyOf Tryd.f44) [encL tyC L, .agg [.int .i64 a0, .int .i64 a1, .str a2, .str a3, .str a4]]=
 (T.br (askS [AV.lst 5 (List.map tyC.elem L) Tl.open_,AV.ptr 0 (0:Nat),AV.int IntKind.i64 (0:Int)] [AV.lst 5 (List.map tyC.elem L) Tl.open_,AV.ptr 0 (0:Nat),AV.int IntKind.i64 (↑(0:Nat):Int)] [Blk.var [AV.int IntKind.i64 a0,AV.int IntKind.i64 a1,AV.str a2,AV.str a3,AV.str a4]] [Blk.var [AV.int IntKind.i64 a0,AV.int IntKind.i64 a1,AV.str a2,AV.str a3,AV.str a4]]) (T.leaf (AV.int
 IntKind.i64 (↑j:Int))) T.fail):=by kernel_rfl
theorem p62n(L:List tyC.I)(a0 a1:Int)(a2 a3 a4:ByteArray):runV (XN 44 [9,17]) (kAt [1,0,1] (st62 L 0) [.var [.int .i64 a0, .int .i64 a1, .str a2, .str a3, .str a4]] .normal (st62 L L.length) [.var [.int .i64 a0, .int .i64 a1, .str a2, .str a3, .str a4]]) Tryd.f44 (bodyOf Tryd.f44) [encL tyC L, .agg [.int .i64 a0, .int .i64 a1, .str a2, .str a3, .str a4]]=
 (T.br (askS [AV.lst 5 (List.map tyC.elem L) Tl.open_,AV.ptr 0 (0:Nat),AV.int IntKind.i64 (0:Int)] [AV.lst 5 (List.map tyC.elem L) Tl.open_,AV.ptr 0 (0:Nat),AV.int IntKind.i64 (↑(0:Nat):Int)] [Blk.var [AV.int IntKind.i64 a0,AV.int IntKind.i64 a1,AV.str a2,AV.str a3,AV.str a4]] [Blk.var [AV.int IntKind.i64 a0,AV.int IntKind.i64 a1,AV.str a2,AV.str a3,AV.str a4]]) (T.leaf (AV.int
 IntKind.i64 (-1))) T.fail):=by kernel_rfl
theorem raw_C(x0 x1:Int)(x2 x3 x4:ByteArray)(a0 a1:Int)(a2 a3 a4:ByteArray):(x0==a0&&(x1==a1&&(x2==a2&&(x3==a3&&(x4==a4&&true)))))=true↔((x0,x1,x2,x3,x4):Int×Int×ByteArray×ByteArray×ByteArray)=(a0,a1,a2,a3,a4):=by
 simp only[Bool.and_eq_true,Bool.and_true,beq_iff_eq,ba_beq_iff,Prod.mk.injEq]
theorem eqC_ask(x:tyC.I)(a0 a1:Int)(a2 a3 a4:ByteArray):(((tyC.elem x).cells.getD 0 undef).toI==a0&&(((tyC.elem x).cells.getD 1 undef).toI==a1&&(((tyC.elem x).cells.getD 2 undef).toS==a2&&(((tyC.elem x).cells.getD 3 undef).toS==a3&&(((tyC.elem x).cells.getD 4 undef).toS==a4&&true)))))=ask (x=(a0,a1,a2,a3,a4)):=by
 obtain⟨x0,x1,x2,x3,x4⟩:=x;apply ask_iff;exact raw_C x0 x1 x2 x3 x4 a0 a1 a2 a3 a4
theorem shape_C(x:tyC.I):AV.agg [AV.int .i64 ((tyC.elem x).cells.getD 0 undef).toI,AV.int .i64 ((tyC.elem x).cells.getD 1 undef).toI,AV.str ((tyC.elem x).cells.getD 2 undef).toS,AV.str ((tyC.elem x).cells.getD 3 undef).toS,AV.str ((tyC.elem x).cells.getD 4 undef).toS]=tyC.elem x:=by
 obtain⟨a0,a1,a2,a3,a4⟩:=x;rfl
noncomputable def findC(L:List tyC.I)(c:tyC.I):Int:=placeOf (firstI (fun j=>L.getD j tyC.zero=c) L.length)
theorem con62(L:List tyC.I)(a0 a1:Int)(a2 a3 a4:ByteArray)(hl:L.length<1000000000000000)(h:H):Con E0 44 [encL tyC L, .agg [.int .i64 a0, .int .i64 a1, .str a2, .str a3, .str a4]] h (.int .i64 (findC L (a0,a1,a2,a3,a4))) h:=by
 have f0:fitsC Tryd.prog 24 (tyC.elem tyC.zero)=true:=by kernel_rfl
 have hn:noRefs [encL tyC L, .agg [.int .i64 a0, .int .i64 a1, .str a2, .str a3, .str a4]]=true:=by
  have:=encL_noRef tyC L;simp only[noRefs,noRef,this,Bool.and_true]
 have fin: ∀{K:Known} {v:Int},KOK E0 19 [] (bodyOf Tryd.f44) K→(runV (XN 44 [9,17]) K Tryd.f44 (bodyOf Tryd.f44) [encL tyC L, .agg [.int .i64 a0, .int .i64 a1, .str a2, .str a3, .str a4]]).run= .ok (.int .i64 v)→Con E0 44 [encL tyC L, .agg [.int .i64 a0, .int .i64 a1, .str a2, .str a3, .str a4]] h (.int .i64 v) h:=fun hk hr=>
  Con.pureV (X:=XN 44 [9,17]) g0 noG0 (noCalls fun _ _ _=>rfl) (fn:=Tryd.f44) Tryd.func44 (c:=bodyOf Tryd.f44) rfl rfl (args:= [encL tyC L, .agg [.int .i64 a0, .int .i64 a1, .str a2, .str a3, .str a4]]) hk hn hr (Le.refl _) rfl h
 have hS:(askS
 [AV.lst (5:Nat) (List.map tyC.elem L) Tl.open_,AV.ptr (0:Nat) (0:Nat),AV.int IntKind.i64 (0:Int)]
 [AV.lst (5:Nat) (List.map tyC.elem L) Tl.open_,AV.ptr (0:Nat) (0:Nat),AV.int IntKind.i64 (↑(0:Nat):Int)]
 [Blk.var [AV.int IntKind.i64 a0,AV.int IntKind.i64 a1,AV.str a2,AV.str a3,AV.str a4]]
 [Blk.var [AV.int IntKind.i64 a0,AV.int IntKind.i64 a1,AV.str a2,AV.str a3,AV.str a4]])=true:=askS_self _ _
 have hT:=find_rounds (E:=E0) (N:=19) (h0:= []) (c:=sub (bodyOf Tryd.f44) [1,0,1,0,0]) (p:=fun j=>L.getD j tyC.zero=(a0,a1,a2,a3,a4)) (n:=L.length) (st:=st62 L) (hm:= [.var [.int .i64 a0, .int .i64 a1, .str a2, .str a3, .str a4]]) (rt:=fun j=> [(4, .int .i64 j)]) (id:=0)
  (fun j hj hp=>by
   have ht:=p62 L a0 a1 a2 a3 a4 j
   rw[idx_ok hj f0,lt_ok hj,Int.toNat_natCast,getD_elem hj,wrap_next (by omega),eqC_ask,ask_false hp]at ht
   exact Tri.seen g0 (noCalls fun _ _ _=>rfl) KOK.none rfl (congrArg T.run ht) (by
    intro q hq;simp only[st62,List.mem_cons,List.not_mem_nil,or_false]at hq
    rcases hq with rfl|rfl|rfl<;>rfl))
  (fun j hj hp=>by
   have ht:=p62 L a0 a1 a2 a3 a4 j
   rw[idx_ok hj f0,lt_ok hj,Int.toNat_natCast,getD_elem hj,eqC_ask,ask_true hp]at ht
   exact Tri.seen g0 (noCalls fun _ _ _=>rfl) KOK.none rfl (congrArg T.run ht) (by
    intro q hq;simp only[List.mem_cons,List.not_mem_nil,or_false]at hq
    rcases hq with rfl;rfl))
  (by
   have ht:=p62 L a0 a1 a2 a3 a4 L.length
   rw[lt_no]at ht
   exact Tri.seen g0 (noCalls fun _ _ _=>rfl) KOK.none rfl (congrArg T.run ht) (by
    intro q hq;simp only[st62,List.mem_cons,List.not_mem_nil,or_false]at hq
    rcases hq with rfl|rfl|rfl<;>rfl))
 have hF:findC L (a0,a1,a2,a3,a4)=placeOf (firstI (fun j=>L.getD j tyC.zero=(a0,a1,a2,a3,a4)) L.length):=rfl;rw[hF]
 cases hf:firstI (fun j=>L.getD j tyC.zero=(a0,a1,a2,a3,a4)) L.length with
 |some i=>
  rw[hf]at hT;have hk:KOK E0 19 [] (bodyOf Tryd.f44) (kAt [1,0,1] (st62 L 0) [.var [.int .i64 a0, .int .i64 a1, .str a2, .str a3, .str a4]] .ret [(4, .int .i64 i)] [.var [.int .i64 a0, .int .i64 a1, .str a2, .str a3, .str a4]]):=kAt_ok (Tri.block (id:=0) (Tri.loop hT));exact fin hk ((congrArg T.run (p62s L a0 a1 a2 a3 a4 i)).trans (bT hS rfl))
 |none=>
  rw[hf]at hT;have hk:KOK E0 19 [] (bodyOf Tryd.f44) (kAt [1,0,1] (st62 L 0) [.var [.int .i64 a0, .int .i64 a1, .str a2, .str a3, .str a4]] .normal (st62 L L.length) [.var [.int .i64 a0, .int .i64 a1, .str a2, .str a3, .str a4]]):=kAt_ok (Tri.block (id:=0) (Tri.loop hT));exact fin hk ((congrArg T.run (p62n L a0 a1 a2 a3 a4)).trans (bT hS rfl))
def encF(p:List tyC.I×tyC.I):List AV:= [encL tyC p.1,tyC.elem p.2]
theorem encF_inj(x y:List tyC.I×tyC.I)(h:encF x=encF y):x=y:=by
 obtain⟨a,b⟩:=x;obtain⟨c,d⟩:=y;simp only[encF,List.cons.injEq,and_true]at h;rw[encL_inj h.1,Ty.elem_inj h.2]
noncomputable def findQ:List AV→Int:=pick 0 encF fun p=>findC p.1 p.2
def okFi(args:List AV):Prop:= ∃(L:List tyC.I) (c:tyC.I),args= [encL tyC L,tyC.elem c]∧L.length<1000000000000000
noncomputable def clFi:Cl:=⟨44,okFi,fun args=> .int .i64 (findQ args)⟩
theorem findQ_eq(L:List tyC.I)(c:tyC.I):findQ [encL tyC L,tyC.elem c]=findC L c:=pick_eq encF_inj (L,c)
theorem clFi62: ∀args,clFi.ok args→ ∀h,Con E0 clFi.f args h (clFi.res args) h:=by
 rintro args ⟨L,c,rfl,hl⟩ h;show Con E0 44 _ h (.int .i64 (findQ [encL tyC L,tyC.elem c])) h;rw[findQ_eq];obtain⟨a0,a1,a2,a3,a4⟩:=c;exact con62 L a0 a1 a2 a3 a4 hl h
def st36(L:List tyC.I)(b:List AV)(j:Nat):List (Nat×AV):= [(0, .lst 1 b .open_),(1,encL tyC L),(6, .map 0),(17,encL tyC L),(18, .int .i64 (((L.map tyC.elem).length:Nat):Int)),(19, .int .i64 j)]
theorem p36(L:List tyC.I)(b:List AV)(es:List (AV×AV))(m i:Int):obsK (XC 17 [11,20,25,36] [clPu 43,clG 8,clY]) (fun _=>none) 38 (sub (bodyOf Tryd.f17) [1,1,1,1,0,1,0,0]) [1,1,1,1,0,1,0,0] (frm [(0, .lst 1 b .open_),(1,encL tyC L),(6, .map 0),(17,encL tyC L),(18, .int .i64 m),(19, .int .i64 i)]) [.map es] [0,1,4,5,6,17,18,19]=
 (T.br (decide (i<m)) (T.br (decide ((0:Int)≤i)&&decide (i<(↑(List.map tyC.elem L).length:Int))&&fitsC Tryd.prog (24:Nat) ((List.map tyC.elem L).getD i.toNat undef)) (T.br (askQ (okE1 tyC) [AV.agg [AV.int IntKind.i64 (((List.map tyC.elem L).getD i.toNat undef).cells.getD 0 undef).toI,AV.int IntKind.i64 (((List.map tyC.elem L).getD i.toNat undef).cells.getD 1 undef).toI,AV.str
 (((List.map tyC.elem L).getD i.toNat undef).cells.getD 2 undef).toS,AV.str (((List.map tyC.elem L).getD i.toNat undef).cells.getD 3 undef).toS,AV.str (((List.map tyC.elem L).getD i.toNat undef).cells.getD 4 undef).toS]]) (T.br (!goodA [AV.agg [AV.int IntKind.i64 (((List.map tyC.elem L).getD i.toNat undef).cells.getD 0 undef).toI,AV.int IntKind.i64 (((List.map tyC.elem L).getD i.toNat
 undef).cells.getD 1 undef).toI,AV.str (((List.map tyC.elem L).getD i.toNat undef).cells.getD 2 undef).toS,AV.str (((List.map tyC.elem L).getD i.toNat undef).cells.getD 3 undef).toS,AV.str (((List.map tyC.elem L).getD i.toNat undef).cells.getD 4 undef).toS]]) (T.leaf ((X.ret,[AV.lst 1 b Tl.open_,AV.lst 5 (List.map tyC.elem L) Tl.open_,AV.nils,AV.int IntKind.i64 11,AV.map 0,AV.lst 5
 (List.map tyC.elem L) Tl.open_,AV.int IntKind.i64 m,AV.int IntKind.i64 i],[Blk.map es,Blk.var [AV.int IntKind.i64 (((List.map tyC.elem L).getD i.toNat undef).cells.getD 0 undef).toI,AV.int IntKind.i64 (((List.map tyC.elem L).getD i.toNat undef).cells.getD 1 undef).toI,AV.str (((List.map tyC.elem L).getD i.toNat undef).cells.getD 2 undef).toS,AV.str (((List.map tyC.elem L).getD i.toNat
 undef).cells.getD 3 undef).toS,AV.str (((List.map tyC.elem L).getD i.toNat undef).cells.getD 4 undef).toS]]))) (T.br (putOk Tryd.prog E0.S (24:Nat) (AV.agg [AV.int IntKind.i64 (((List.map tyC.elem L).getD i.toNat undef).cells.getD 0 undef).toI,AV.int IntKind.i64 (((List.map tyC.elem L).getD i.toNat undef).cells.getD 1 undef).toI,AV.str (((List.map tyC.elem L).getD i.toNat undef).cells.getD 2
 undef).toS,AV.str (((List.map tyC.elem L).getD i.toNat undef).cells.getD 3 undef).toS,AV.str (((List.map tyC.elem L).getD i.toNat undef).cells.getD 4 undef).toS]) es) (T.br (askQ okLay [AV.lst 1 b Tl.open_,AV.agg [AV.int IntKind.i64 (((List.map tyC.elem L).getD i.toNat undef).cells.getD 0 undef).toI,AV.int IntKind.i64 (((List.map tyC.elem L).getD i.toNat undef).cells.getD 1 undef).toI,AV.str
 (((List.map tyC.elem L).getD i.toNat undef).cells.getD 2 undef).toS,AV.str (((List.map tyC.elem L).getD i.toNat undef).cells.getD 3 undef).toS,AV.str (((List.map tyC.elem L).getD i.toNat undef).cells.getD 4 undef).toS]]) (T.leaf ((X.normal,[AV.lst 1 (layA [AV.lst 1 b Tl.open_,AV.agg [AV.int IntKind.i64 (((List.map tyC.elem L).getD i.toNat undef).cells.getD 0 undef).toI,AV.int IntKind.i64
 (((List.map tyC.elem L).getD i.toNat undef).cells.getD 1 undef).toI,AV.str (((List.map tyC.elem L).getD i.toNat undef).cells.getD 2 undef).toS,AV.str (((List.map tyC.elem L).getD i.toNat undef).cells.getD 3 undef).toS,AV.str (((List.map tyC.elem L).getD i.toNat undef).cells.getD 4 undef).toS]]) Tl.open_,AV.lst 5 (List.map tyC.elem L) Tl.open_,AV.fsl 0 [],AV.fsl 0 [],AV.map 0,AV.lst 5
 (List.map tyC.elem L) Tl.open_,AV.int IntKind.i64 m,AV.int IntKind.i64 (IntKind.i64.wrap (i+1))],[Blk.map (putM Tryd.prog E0.S 24 (AV.agg [AV.int IntKind.i64 (((List.map tyC.elem L).getD i.toNat undef).cells.getD 0 undef).toI,AV.int IntKind.i64 (((List.map tyC.elem L).getD i.toNat undef).cells.getD 1 undef).toI,AV.str (((List.map tyC.elem L).getD i.toNat undef).cells.getD 2 undef).toS,
 AV.str (((List.map tyC.elem L).getD i.toNat undef).cells.getD 3 undef).toS,AV.str (((List.map tyC.elem L).getD i.toNat undef).cells.getD 4 undef).toS]) (AV.bool true) es),Blk.var [AV.int IntKind.i64 (((List.map tyC.elem L).getD i.toNat undef).cells.getD 0 undef).toI,AV.int IntKind.i64 (((List.map tyC.elem L).getD i.toNat undef).cells.getD 1 undef).toI,AV.str (((List.map tyC.elem L).getD i.toNat
 undef).cells.getD 2 undef).toS,AV.str (((List.map tyC.elem L).getD i.toNat undef).cells.getD 3 undef).toS,AV.str (((List.map tyC.elem L).getD i.toNat undef).cells.getD 4 undef).toS]]))) T.fail) T.fail)) T.fail) T.fail) (T.leaf ((X.exit 0,[AV.lst 1 b Tl.open_,AV.lst 5 (List.map tyC.elem L) Tl.open_,AV.fsl 0 [],AV.fsl 0 [],AV.map 0,AV.lst 5 (List.map tyC.elem L) Tl.open_,AV.int IntKind.i64
 m,AV.int IntKind.i64 i],[Blk.map es])))):=by kernel_rfl
theorem p36s(L:List tyC.I)(b:List AV)(es:List (AV×AV)):runV (XC 17 [11,20,25,36] [clPu 43,clG 8,clY]) (kAt [1,1,1,1,0,1] (st36 L (b++numB (((L.map tyC.elem).length:Nat):Int)) 0) [.map []] .ret [(4, .nils),(5, .int .i64 11)] [.map es]) Tryd.f17 (bodyOf Tryd.f17) [.lst 1 b .open_,encL tyC L]=
 (T.br (decide ((256:Int)<(↑(List.map tyC.elem L).length:Int))) (T.leaf (AV.tup [AV.nils,AV.int IntKind.i64 6])) (T.br (askQ okPu [AV.lst 1 b Tl.open_,AV.int IntKind.i64 (↑(List.map tyC.elem L).length:Int)]) (T.br (askS [AV.lst 1 (b++numB (↑(List.map tyC.elem L).length:Int)) Tl.open_,AV.lst 5 (List.map tyC.elem L) Tl.open_,AV.map 0,AV.lst 5 (List.map tyC.elem L) Tl.open_,AV.int
 IntKind.i64 (↑(List.map tyC.elem L).length:Int),AV.int IntKind.i64 (0:Int)] [AV.lst 1 (b++numB (↑(List.map tyC.elem L).length:Int)) Tl.open_,AV.lst 5 (List.map tyC.elem L) Tl.open_,AV.map 0,AV.lst 5 (List.map tyC.elem L) Tl.open_,AV.int IntKind.i64 (↑(List.map tyC.elem L).length:Int),AV.int IntKind.i64 (↑(0:Nat):Int)] [Blk.map []] [Blk.map []]) (T.leaf (AV.tup [AV.nils,AV.int
 IntKind.i64 11])) T.fail) T.fail)):=by kernel_rfl
theorem p36n(L:List tyC.I)(b:List AV)(c:List AV)(es:List (AV×AV)):runV (XC 17 [11,20,25,36] [clPu 43,clG 8,clY]) (kAt [1,1,1,1,0,1] (st36 L (b++numB (((L.map tyC.elem).length:Nat):Int)) 0) [.map []] .normal (st36 L c L.length) [.map es]) Tryd.f17 (bodyOf Tryd.f17) [.lst 1 b .open_,encL tyC L]=
 (T.br (decide ((256:Int)<(↑(List.map tyC.elem L).length:Int))) (T.leaf (AV.tup [AV.nils,AV.int IntKind.i64 6])) (T.br (askQ okPu [AV.lst 1 b Tl.open_,AV.int IntKind.i64 (↑(List.map tyC.elem L).length:Int)]) (T.br (askS [AV.lst 1 (b++numB (↑(List.map tyC.elem L).length:Int)) Tl.open_,AV.lst 5 (List.map tyC.elem L) Tl.open_,AV.map 0,AV.lst 5 (List.map tyC.elem L) Tl.open_,AV.int
 IntKind.i64 (↑(List.map tyC.elem L).length:Int),AV.int IntKind.i64 (0:Int)] [AV.lst 1 (b++numB (↑(List.map tyC.elem L).length:Int)) Tl.open_,AV.lst 5 (List.map tyC.elem L) Tl.open_,AV.map 0,AV.lst 5 (List.map tyC.elem L) Tl.open_,AV.int IntKind.i64 (↑(List.map tyC.elem L).length:Int),AV.int IntKind.i64 (↑(0:Nat):Int)] [Blk.map []] [Blk.map []]) (T.br (decide ((↑es.length:Int)
 <(↑(List.map tyC.elem L).length:Int))) (T.leaf (AV.tup [AV.nils,AV.int IntKind.i64 8])) (T.leaf (AV.tup [AV.lst 1 c Tl.open_,AV.int IntKind.i64 0]))) T.fail) T.fail)):=by kernel_rfl
theorem p36x(L:List tyC.I)(b:List AV):runV (XC 17 [11,20,25,36] [clPu 43,clG 8,clY]) (kNo [1,1,1,1,0,1]) Tryd.f17 (bodyOf Tryd.f17) [.lst 1 b .open_,encL tyC L]=
 (T.br (decide ((256:Int)<(↑(List.map tyC.elem L).length:Int))) (T.leaf (AV.tup [AV.nils,AV.int IntKind.i64 6])) (T.br (askQ okPu [AV.lst 1 b Tl.open_,AV.int IntKind.i64 (↑(List.map tyC.elem L).length:Int)]) T.fail T.fail)):=by kernel_rfl
instance:DecidableEq tyC.I:=inferInstanceAs (DecidableEq (Int×Int×ByteArray×ByteArray×ByteArray))
def dupC(L:List tyC.I)(n:Nat):Prop:= ∃i,i<n∧ ∃k,k<i∧L.getD k tyC.zero=L.getD i tyC.zero
noncomputable def poolE(L:List tyC.I):Int:=if 256<L.length then 6 else match firstI (fun j=>goodC (L.getD j tyC.zero)=false) L.length with
 |some _=>11
 |none=>(match ask (dupC L L.length)with|true=>8|false=>0)
def upB(b:List AV)(L:List tyC.I)(j:Nat):List AV:=b++numB (((L.map tyC.elem).length:Nat):Int)++(L.take j).flatMap conB
theorem upB_next(b:List AV)(L:List tyC.I)(j:Nat)(hj:j<L.length):upB b L (j+1)=upB b L j++conB (L.getD j tyC.zero):=by
 unfold upB;rw[List.take_add_one,List.flatMap_append,List.getD_eq_getElem?_getD,List.getElem?_eq_getElem hj];simp[List.append_assoc]
theorem upB_isB{b:List AV}(hb:IsB b)(L:List tyC.I)(j:Nat):IsB (upB b L j):=(hb.append (numB_isB _)).append fun y hy=>by
 obtain⟨c,_,h⟩:=List.mem_flatMap.1 hy;exact conB_isB c y h
theorem upB_len{b:List AV}{L:List tyC.I}: ∀(j:Nat),j≤L.length→(∀k,k<j→fitC (L.getD k tyC.zero))→(upB b L j).length≤b.length+10+j*1000
 |0,_,_=>by
  have:=numB_len (((L.map tyC.elem).length:Nat):Int);simp only[upB,List.take_zero,List.flatMap_nil,List.append_nil,List.length_append];omega
 |j+1,hj,h=>by
  have h1:=upB_len (b:=b) (L:=L) j (by omega) (fun k hk=>h k (by omega))
  have h2:=conB_len (h j (by omega))
  rw[upB_next b L j (by omega),List.length_append];omega
noncomputable def poolR(b:List AV)(L:List tyC.I):AV:= .tup [.lst 1 (if poolE L=0 then upB b L L.length else []) .open_, .int .i64 (poolE L)]
theorem poolR_no{b:List AV}{L:List tyC.I}{e:Int}(h:poolE L=e)(h0:e≠0):Le (.tup [.nils, .int .i64 e]) (poolR b L):=by
 unfold poolR;rw[h,if_neg h0];exact Le.tup (.cons (Le.nils nofun) (.cons (Le.refl _) .nil))
theorem poolR_ref{b:List AV}(hb:IsB b)(L:List tyC.I):noRef (poolR b L)=true:=by
 unfold poolR
 have h:IsB (if poolE L=0 then upB b L L.length else []):=by
  split
  ·exact upB_isB hb L _
  ·exact IsB.nil
 have:=refB h
 simp only[noRef,noRefs,Bool.and_true]at this ⊢
 rw[this]
theorem eqT5(x0 x1:Int)(x2 x3 x4:ByteArray)(a0 a1:Int)(a2 a3 a4:ByteArray):eqT Tryd.prog E0.S 99 24 (.agg [.int .i64 x0, .int .i64 x1, .str x2, .str x3, .str x4]) (.agg [.int .i64 a0, .int .i64 a1, .str a2, .str a3, .str a4])=some (x0==a0&&(x1==a1&&(x2==a2&&(x3==a3&&(x4==a4&&true))))):=by kernel_rfl
theorem eqT_C(a b:tyC.I):eqT Tryd.prog E0.S 99 24 (tyC.elem a) (tyC.elem b)=some (decide (a=b)):=by
 obtain⟨x0,x1,x2,x3,x4⟩:=a;obtain⟨a0,a1,a2,a3,a4⟩:=b;refine(eqT5 x0 x1 x2 x3 x4 a0 a1 a2 a3 a4).trans (congrArg some ?_);exact Bool.eq_iff_iff.2 ((raw_C x0 x1 x2 x3 x4 a0 a1 a2 a3 a4).trans (decide_eq_true_iff).symm)
theorem plain5(a0 a1:Int)(a2 a3 a4:ByteArray):plainEq (.agg [.int .i64 a0, .int .i64 a1, .str a2, .str a3, .str a4]) (.agg [.int .i64 a0, .int .i64 a1, .str a2, .str a3, .str a4])=true:=by
 have h: ∀s:ByteArray,(s==s)=true:=fun s=>(ba_beq_iff s s).2 rfl
 simp[plainEq,plains,plain1,h]
theorem plain_C(a:tyC.I):plainEq (tyC.elem a) (tyC.elem a)=true:=by
 obtain⟨a0,a1,a2,a3,a4⟩:=a;exact plain5 a0 a1 a2 a3 a4
theorem renB_setBy(κ:Nat→Nat)(l:List tyC.I):renB κ (.map (setBy tyC.elem l))= .map (setBy tyC.elem l):=by
 simp only[renB,setBy,List.map_map]
 congr 1
theorem calls36:CallOK (XC 17 [11,20,25,36] [clPu 43,clG 8,clY]).E (XC 17 [11,20,25,36] [clPu 43,clG 8,clY]).calls:=callsBy_ok rfl fun c hc=>by
 rcases List.mem_cons.1 hc with rfl|hc
 ·exact clPu66
 rcases List.mem_cons.1 hc with rfl|hc
 ·exact clG67
 ·obtain rfl:=List.mem_singleton.1 hc
  exact clY68
theorem seen36{l:List tyC.I}{τ:Fr}{h:H}{x:X}{vs:List AV}{extra:H}
  (hr:(obsK (XC 17 [11,20,25,36] [clPu 43,clG 8,clY]) (fun _=>none) 38 (sub (bodyOf Tryd.f17) [1,1,1,1,0,1,0,0]) [1,1,1,1,0,1,0,0] τ h [0,1,4,5,6,17,18,19]).run= .ok (x,vs,[.map (setBy tyC.elem l)]++extra)) {sl:List (Nat×AV)}
  (hs: ∀q,q∈sl→frm ([0,1,4,5,6,17,18,19].zip vs) q.1=q.2∧(noRef q.2=true∨q.2= .map 0)∧isFsl q.2=false):Tri E0 38 [] (sub (bodyOf Tryd.f17) [1,1,1,1,0,1,0,0]) τ h x (frm sl) [.map (setBy tyC.elem l)]:=by
 refine Tri.seenB (X:=XC 17 [11,20,25,36] [clPu 43,clG 8,clY]) g0 noG0 calls36 KOK.none rfl hr (Nat.zero_le _) (fun b hb=>?_) (fun b hb=>?_) (fun q hq=>?_)
 ·obtain rfl:=List.mem_singleton.1 hb;nofun
 ·obtain rfl:=List.mem_singleton.1 hb;exact renB_setBy _ l
 ·obtain⟨h1,h2,h3⟩:=hs q hq
  refine⟨h1,?_,h3⟩
  rcases h2 with h2|h2
  ·exact ren_noRef _ _ h2
  ·rw[h2];rfl
set_option maxRecDepth 100000 in
theorem con36(L:List tyC.I)(b:List AV)(hb:IsB b)(hbl:b.length≤150000000000000)(hl:L.length<1000000000000000)(hok: ∀x,x∈L→tyC.okay x)(h:H):Con E0 17 [.lst 1 b .open_,encL tyC L] h (poolR b L) h:=by
 have hlen:(L.map tyC.elem).length=L.length:=by simp
 have hn:noRefs [.lst 1 b .open_,encL tyC L]=true:=refs2 hb (encL_noRef _ _)
 have f0:fitsC Tryd.prog 24 (tyC.elem tyC.zero)=true:=by kernel_rfl
 have fin: ∀{K:Known} {v:AV},KOK E0 38 [] (bodyOf Tryd.f17) K→(runV (XC 17 [11,20,25,36] [clPu 43,clG 8,clY]) K Tryd.f17 (bodyOf Tryd.f17) [.lst 1 b .open_,encL tyC L]).run= .ok v→Le v (poolR b L)→Con E0 17 [.lst 1 b .open_,encL tyC L] h (poolR b L) h:=fun hk hr hle=>
  Con.pureV (X:=XC 17 [11,20,25,36] [clPu 43,clG 8,clY]) g0 noG0 calls36 (fn:=Tryd.f17) Tryd.func17 (c:=bodyOf Tryd.f17) rfl rfl (args:= [.lst 1 b .open_,encL tyC L]) hk hn hr hle (poolR_ref hb L) h
 by_cases h8:256<L.length
 ·exact fin (kNo_ok (p:= [1,1,1,1,0,1])) ((congrArg T.run (p36x L b)).trans (bT (decide_eq_true (by rw[hlen];omega)) rfl)) (poolR_no (if_pos h8) (by decide))
 have hR:poolE L=match firstI (fun j=>goodC (L.getD j tyC.zero)=false) L.length with
    |some _=>11
    |none=>(match ask (dupC L L.length)with|true=>8|false=>0):=if_neg h8
 have hmem: ∀j,j<L.length→tyC.okay (L.getD j tyC.zero):=fun j hj=>hok _ (getD_mem hj)
 have hfit: ∀j,j<L.length→goodC (L.getD j tyC.zero)=true→fitC (L.getD j tyC.zero):=fun j hj hg=>((goodC_sp _ (hmem j hj)).2.2 hg).1
 have hqg: ∀j,j<L.length→askQ (okE1 tyC) [tyC.elem (L.getD j tyC.zero)]=true:=fun j hj=>ask_true ⟨_,rfl,hmem j hj⟩
 have hsl: ∀(x y:AV) (c:List AV) (j:Nat),IsB c→ ∀q,q∈st36 L c j→frm ([0,1,4,5,6,17,18,19].zip [.lst 1 c .open_,encL tyC L,x,y, .map 0,encL tyC L, .int .i64 (((L.map tyC.elem).length:Nat):Int), .int .i64 j]) q.1=q.2∧(noRef q.2=true∨q.2= .map 0)∧isFsl q.2=false:=by
  intro x y c j hc q hq;simp only[st36,List.mem_cons,List.not_mem_nil,or_false]at hq
  rcases hq with rfl|rfl|rfl|rfl|rfl|rfl
  ·exact⟨rfl, .inl (refB hc),rfl⟩
  ·exact⟨rfl, .inl (encL_noRef _ _),rfl⟩
  ·exact⟨rfl, .inr rfl,rfl⟩
  ·exact⟨rfl, .inl (encL_noRef _ _),rfl⟩
  ·exact⟨rfl, .inl rfl,rfl⟩
  ·exact⟨rfl, .inl rfl,rfl⟩
 have hrt: ∀(v1 v2 v3 v4 v5 v6:AV),∀q,q∈ [(4,AV.nils),(5,AV.int .i64 11)]→frm ([0,1,4,5,6,17,18,19].zip [v1,v2, .nils, .int .i64 11,v3,v4,v5,v6]) q.1=q.2∧(noRef q.2=true∨q.2= .map 0)∧isFsl q.2=false:=by
  intro v1 v2 v3 v4 v5 v6 q hq;simp only[List.mem_cons,List.not_mem_nil,or_false]at hq
  rcases hq with rfl|rfl
  ·exact⟨rfl, .inl rfl,rfl⟩
  ·exact⟨rfl, .inl rfl,rfl⟩
 have hgood: ∀{j:Nat},(∀k,k<j→ ¬goodC (L.getD k tyC.zero)=false)→ ∀k,k<j→goodC (L.getD k tyC.zero)=true:=fun h k hk=>by
  cases hg:goodC (L.getD k tyC.zero)with
  |true=>rfl
  |false=>exact absurd hg (h k hk)
 have hT:=find_roundsH (E:=E0) (N:=38) (h0:= []) (c:=sub (bodyOf Tryd.f17) [1,1,1,1,0,1,0,0]) (p:=fun j=>goodC (L.getD j tyC.zero)=false) (n:=L.length) (st:=fun j=>st36 L (upB b L j) j) (hm:=fun j=> [.map (setBy tyC.elem (uniq L j))]) (rt:=fun _=> [(4, .nils),(5, .int .i64 11)]) (id:=0)
  (fun j hj hpre hp=>by
   have ht:=p36 L (upB b L j) (setBy tyC.elem (uniq L j)) (((L.map tyC.elem).length:Nat):Int) j
   have hg:goodC (L.getD j tyC.zero)=true:=by
    cases hg:goodC (L.getD j tyC.zero)with
    |true=>rfl
    |false=>exact absurd hg hp
   obtain⟨po,pm⟩:=setBy_put (P:=Tryd.prog) (S:=E0.S) (kt:=24) eqT_C plain_C (L.getD j tyC.zero) (uniq L j)
   have hq:askQ okLay [.lst 1 (upB b L j) .open_,tyC.elem (L.getD j tyC.zero)]=true:=ask_true ⟨_,_,rfl,upB_isB hb L j,by
    have:=upB_len (b:=b) (L:=L) j (by omega) (fun k hk=>hfit k (by omega) (hgood hpre k hk))
    omega,hmem j hj,hfit j hj hg⟩
   rw[idx_ok hj f0,lt_ok hj,Int.toNat_natCast,getD_elem hj,wrap_next (by omega),shape_C,hqg j hj,goodA_eq,hg,po,pm,hq,layA_eq,←upB_next b L j hj,←uniq_next L j tyC.zero hj]at ht
   exact seen36 (extra:= [_]) (congrArg T.run ht) (hsl _ _ _ _ (upB_isB hb L _)))
  (fun j hj hpre hp=>by
   have ht:=p36 L (upB b L j) (setBy tyC.elem (uniq L j)) (((L.map tyC.elem).length:Nat):Int) j
   rw[idx_ok hj f0,lt_ok hj,Int.toNat_natCast,getD_elem hj,shape_C,hqg j hj,goodA_eq,hp]at ht
   exact seen36 (extra:= [_]) (congrArg T.run ht) (hrt _ _ _ _ _ _))
  (by
   have ht:=p36 L (upB b L L.length) (setBy tyC.elem (uniq L L.length)) (((L.map tyC.elem).length:Nat):Int) L.length
   rw[lt_no]at ht
   exact seen36 (extra:= []) (congrArg T.run ht) (hsl _ _ _ _ (upB_isB hb L _)))
 have e0:upB b L 0=b++numB (((L.map tyC.elem).length:Nat):Int):=by simp[upB]
 have e1:setBy tyC.elem (uniq L 0)= []:=by rw[uniq_zero];rfl
 simp only[e0,e1]at hT
 have hS:(askS
 [AV.lst (1:Nat) (b++numB (↑(List.map tyC.elem L).length:Int)) Tl.open_,
  AV.lst (5:Nat) (List.map tyC.elem L) Tl.open_,AV.map (0:Nat),AV.lst (5:Nat) (List.map tyC.elem L) Tl.open_,
  AV.int IntKind.i64 (↑(List.map tyC.elem L).length:Int),AV.int IntKind.i64 (0:Int)]
 [AV.lst (1:Nat) (b++numB (↑(List.map tyC.elem L).length:Int)) Tl.open_,
  AV.lst (5:Nat) (List.map tyC.elem L) Tl.open_,AV.map (0:Nat),AV.lst (5:Nat) (List.map tyC.elem L) Tl.open_,
  AV.int IntKind.i64 (↑(List.map tyC.elem L).length:Int),AV.int IntKind.i64 (↑(0:Nat):Int)]
 [Blk.map []] [Blk.map []])=true:=askS_self _ _
 have hq0:okPu [.lst 1 b .open_, .int .i64 (((L.map tyC.elem).length:Nat):Int)]:=okPu_of hb (by omega) (by rw[hlen];omega);have hbf:decide ((256:Int)<(((L.map tyC.elem).length:Nat):Int))=false:=decide_eq_false (by rw[hlen];omega)
 cases hf:firstI (fun j=>goodC (L.getD j tyC.zero)=false) L.length with
 |some i=>
  rw[hf]at hT hR;have hk:KOK E0 38 [] (bodyOf Tryd.f17) (kAt [1,1,1,1,0,1] (st36 L (b++numB (((L.map tyC.elem).length:Nat):Int)) 0) [.map []] .ret [(4, .nils),(5, .int .i64 11)] [.map (setBy tyC.elem (uniq L i))]):=kAt_ok (Tri.block (id:=0) (Tri.loop hT));exact fin hk ((congrArg T.run (p36s L b _)).trans (bF hbf (bA (bT hS rfl) hq0))) (poolR_no hR (by decide))
 |none=>
  rw[hf]at hT hR;have hk:KOK E0 38 [] (bodyOf Tryd.f17) (kAt [1,1,1,1,0,1] (st36 L (b++numB (((L.map tyC.elem).length:Nat):Int)) 0) [.map []] .normal (st36 L (upB b L L.length) L.length) [.map (setBy tyC.elem (uniq L L.length))]):=kAt_ok (Tri.block (id:=0) (Tri.loop hT))
  have hu:decide (((setBy tyC.elem (uniq L L.length)).length:Int)<(((L.map tyC.elem).length:Nat):Int))=ask (dupC L L.length):=by
   refine ask_iff ?_
   rw[decide_eq_true_iff,hlen];have:=(uniq_len L tyC.zero L.length (Nat.le_refl _)).2;simp only[setBy,List.length_map];unfold dupC;rw[←this];omega
  have hr:=(congrArg T.run (p36n L b (upB b L L.length) (setBy tyC.elem (uniq L L.length))))
  rw[hu]at hr
  cases hd:ask (dupC L L.length)with
  |true=>
   rw[hd]at hr hR;exact fin hk (hr.trans (bF hbf (bA (bT hS rfl) hq0))) (poolR_no hR (by decide))
  |false=>
   rw[hd]at hr hR;exact fin hk (hr.trans (bF hbf (bA (bT hS rfl) hq0))) (by unfold poolR;rw[hR,if_pos rfl];exact Le.refl _)
def st52(L:List tyC.I)(b:List AV)(t:Bool)(j:Nat):List (Nat×AV):= [(1,encL tyC L),(6, .lst 1 b .open_),(7, .bool t),(8, .int .i64 j)]
theorem p52(L:List tyC.I)(b:List AV)(t:Bool)(i:Int):obsK (XC 18 [13,21,34,37,48] [clPu 23,clQ,clFi]) (fun _=>none) 50 (sub (bodyOf Tryd.f18) [1,1,1,1,0,1,0,0]) [1,1,1,1,0,1,0,0] (frm [(1,encL tyC L),(6, .lst 1 b .open_),(7, .bool t),(8, .int .i64 i)]) [] [1,4,5,6,7,8]=
 (T.br (decide (i<(↑(List.map tyC.elem L).length:Int))) (T.br (decide ((0:Int)≤i)&&decide (i<(↑(List.map tyC.elem L).length:Int))&&fitsC Tryd.prog (24:Nat) ((List.map tyC.elem L).getD i.toNat undef)) (T.br (askQ okR3 [AV.lst 1 b Tl.open_,AV.agg [AV.int IntKind.i64 (((List.map tyC.elem L).getD i.toNat undef).cells.getD 0 undef).toI,AV.int IntKind.i64 (((List.map tyC.elem L).getD
 i.toNat undef).cells.getD 1 undef).toI,AV.str (((List.map tyC.elem L).getD i.toNat undef).cells.getD 2 undef).toS,AV.str (((List.map tyC.elem L).getD i.toNat undef).cells.getD 3 undef).toS,AV.str (((List.map tyC.elem L).getD i.toNat undef).cells.getD 4 undef).toS]]) (T.br (!decide ((match goodA [AV.agg [AV.int IntKind.i64 (((List.map tyC.elem L).getD i.toNat undef).cells.getD 0 undef).toI,
 AV.int IntKind.i64 (((List.map tyC.elem L).getD i.toNat undef).cells.getD 1 undef).toI,AV.str (((List.map tyC.elem L).getD i.toNat undef).cells.getD 2 undef).toS,AV.str (((List.map tyC.elem L).getD i.toNat undef).cells.getD 3 undef).toS,AV.str (((List.map tyC.elem L).getD i.toNat undef).cells.getD 4 undef).toS]]with|true=>(0:Int)|false=>(11:Int))=(0:Int))) (T.leaf ((X.ret,
 [AV.lst 5 (List.map tyC.elem L) Tl.open_,AV.nils,AV.int IntKind.i64 (match goodA [AV.agg [AV.int IntKind.i64 (((List.map tyC.elem L).getD i.toNat undef).cells.getD 0 undef).toI,AV.int IntKind.i64 (((List.map tyC.elem L).getD i.toNat undef).cells.getD 1 undef).toI,AV.str (((List.map tyC.elem L).getD i.toNat undef).cells.getD 2 undef).toS,AV.str (((List.map tyC.elem L).getD i.toNat
 undef).cells.getD 3 undef).toS,AV.str (((List.map tyC.elem L).getD i.toNat undef).cells.getD 4 undef).toS]]with|true=>0|false=>11),AV.lst 1 b Tl.open_,AV.bool t,AV.int IntKind.i64 i],[]))) (T.br (t) (T.leaf ((X.normal,[AV.lst 5 (List.map tyC.elem L) Tl.open_,AV.fsl 0 [],AV.fsl 0 [],AV.lst 1 (putQ [AV.lst 1 b Tl.open_,AV.agg [AV.int IntKind.i64 (((List.map tyC.elem L).getD i.toNat
 undef).cells.getD 0 undef).toI,AV.int IntKind.i64 (((List.map tyC.elem L).getD i.toNat undef).cells.getD 1 undef).toI,AV.str (((List.map tyC.elem L).getD i.toNat undef).cells.getD 2 undef).toS,AV.str (((List.map tyC.elem L).getD i.toNat undef).cells.getD 3 undef).toS,AV.str (((List.map tyC.elem L).getD i.toNat undef).cells.getD 4 undef).toS]]) Tl.open_,AV.bool true,AV.int IntKind.i64
 (IntKind.i64.wrap (i+1))],[]))) (T.br (decide ((0:Int)≤i)&&decide (i<(↑(List.map tyC.elem L).length:Int))&&fitsC Tryd.prog (24:Nat) ((List.map tyC.elem L).getD i.toNat undef)) (T.br (askQ okFi [AV.lst 5 (List.map tyC.elem L) Tl.open_,AV.agg [AV.int IntKind.i64 (((List.map tyC.elem L).getD i.toNat undef).cells.getD 0 undef).toI,AV.int IntKind.i64 (((List.map tyC.elem L).getD
 i.toNat undef).cells.getD 1 undef).toI,AV.str (((List.map tyC.elem L).getD i.toNat undef).cells.getD 2 undef).toS,AV.str (((List.map tyC.elem L).getD i.toNat undef).cells.getD 3 undef).toS,AV.str (((List.map tyC.elem L).getD i.toNat undef).cells.getD 4 undef).toS]]) (T.leaf ((X.normal,[AV.lst 5 (List.map tyC.elem L) Tl.open_,AV.fsl 0 [],AV.fsl 0 [],AV.lst 1 (putQ [AV.lst 1 b Tl.open_,AV.agg
 [AV.int IntKind.i64 (((List.map tyC.elem L).getD i.toNat undef).cells.getD 0 undef).toI,AV.int IntKind.i64 (((List.map tyC.elem L).getD i.toNat undef).cells.getD 1 undef).toI,AV.str (((List.map tyC.elem L).getD i.toNat undef).cells.getD 2 undef).toS,AV.str (((List.map tyC.elem L).getD i.toNat undef).cells.getD 3 undef).toS,AV.str (((List.map tyC.elem L).getD i.toNat undef).cells.getD 4
 undef).toS]]) Tl.open_,AV.bool (decide (findQ [AV.lst 5 (List.map tyC.elem L) Tl.open_,AV.agg [AV.int IntKind.i64 (((List.map tyC.elem L).getD i.toNat undef).cells.getD 0 undef).toI,AV.int IntKind.i64 (((List.map tyC.elem L).getD i.toNat undef).cells.getD 1 undef).toI,AV.str (((List.map tyC.elem L).getD i.toNat undef).cells.getD 2 undef).toS,AV.str (((List.map tyC.elem L).getD i.toNat
 undef).cells.getD 3 undef).toS,AV.str (((List.map tyC.elem L).getD i.toNat undef).cells.getD 4 undef).toS]]<i)),AV.int IntKind.i64 (IntKind.i64.wrap (i+1))],[]))) T.fail) T.fail))) T.fail) T.fail) (T.leaf ((X.exit 0,[AV.lst 5 (List.map tyC.elem L) Tl.open_,AV.fsl 0 [],AV.fsl 0 [],AV.lst 1 b Tl.open_,AV.bool t,AV.int IntKind.i64 i],[])))):=by kernel_rfl
theorem p52s(L:List tyC.I)(b:List AV):runV (XC 18 [13,21,34,37,48] [clPu 23,clQ,clFi]) (kAt [1,1,1,1,0,1] (st52 L (b++numB (((L.map tyC.elem).length:Nat):Int)) false 0) [] .ret [(4, .nils),(5, .int .i64 11)] []) Tryd.f18 (bodyOf Tryd.f18) [.lst 1 b .open_,encL tyC L]=
 (T.br (decide ((256:Int)<(↑(List.map tyC.elem L).length:Int))) (T.leaf (AV.tup [AV.nils,AV.int IntKind.i64 6])) (T.br (askQ okPu [AV.lst 1 b Tl.open_,AV.int IntKind.i64 (↑(List.map tyC.elem L).length:Int)]) (T.br (askS [AV.lst 5 (List.map tyC.elem L) Tl.open_,AV.lst 1 (b++numB (↑(List.map tyC.elem L).length:Int)) Tl.open_,AV.bool false,AV.int IntKind.i64 (0:Int)] [AV.lst 5
 (List.map tyC.elem L) Tl.open_,AV.lst 1 (b++numB (↑(List.map tyC.elem L).length:Int)) Tl.open_,AV.bool false,AV.int IntKind.i64 (↑(0:Nat):Int)] [] []) (T.leaf (AV.tup [AV.nils,AV.int IntKind.i64 11])) T.fail) T.fail)):=by kernel_rfl
theorem p52n(L:List tyC.I)(b:List AV)(c:List AV)(t:Bool):runV (XC 18 [13,21,34,37,48] [clPu 23,clQ,clFi]) (kAt [1,1,1,1,0,1] (st52 L (b++numB (((L.map tyC.elem).length:Nat):Int)) false 0) [] .normal (st52 L c t L.length) []) Tryd.f18 (bodyOf Tryd.f18) [.lst 1 b .open_,encL tyC L]=
 (T.br (decide ((256:Int)<(↑(List.map tyC.elem L).length:Int))) (T.leaf (AV.tup [AV.nils,AV.int IntKind.i64 6])) (T.br (askQ okPu [AV.lst 1 b Tl.open_,AV.int IntKind.i64 (↑(List.map tyC.elem L).length:Int)]) (T.br (askS [AV.lst 5 (List.map tyC.elem L) Tl.open_,AV.lst 1 (b++numB (↑(List.map tyC.elem L).length:Int)) Tl.open_,AV.bool false,AV.int IntKind.i64 (0:Int)] [AV.lst 5
 (List.map tyC.elem L) Tl.open_,AV.lst 1 (b++numB (↑(List.map tyC.elem L).length:Int)) Tl.open_,AV.bool false,AV.int IntKind.i64 (↑(0:Nat):Int)] [] []) (T.br (t) (T.leaf (AV.tup [AV.nils,AV.int IntKind.i64 8])) (T.leaf (AV.tup [AV.lst 1 c Tl.open_,AV.int IntKind.i64 0]))) T.fail) T.fail)):=by kernel_rfl
theorem p52x(L:List tyC.I)(b:List AV):runV (XC 18 [13,21,34,37,48] [clPu 23,clQ,clFi]) (kNo [1,1,1,1,0,1]) Tryd.f18 (bodyOf Tryd.f18) [.lst 1 b .open_,encL tyC L]=
 (T.br (decide ((256:Int)<(↑(List.map tyC.elem L).length:Int))) (T.leaf (AV.tup [AV.nils,AV.int IntKind.i64 6])) (T.br (askQ okPu [AV.lst 1 b Tl.open_,AV.int IntKind.i64 (↑(List.map tyC.elem L).length:Int)]) T.fail T.fail)):=by kernel_rfl
theorem calls52:CallOK (XC 18 [13,21,34,37,48] [clPu 23,clQ,clFi]).E (XC 18 [13,21,34,37,48] [clPu 23,clQ,clFi]).calls:=callsBy_ok rfl fun c hc=>by
 rcases List.mem_cons.1 hc with rfl|hc
 ·exact clPu53
 rcases List.mem_cons.1 hc with rfl|hc
 ·exact clQ88
 ·obtain rfl:=List.mem_singleton.1 hc
  exact clFi62
theorem dupC_next(L:List tyC.I)(j:Nat):dupC L (j+1)↔dupC L j∨ ∃k,k<j∧L.getD k tyC.zero=L.getD j tyC.zero:=by
 unfold dupC;constructor
 ·rintro⟨i,hi,hk⟩
  rcases Nat.lt_succ_iff_lt_or_eq.1 hi with h|h
  ·exact .inl ⟨i,h,hk⟩
  ·exact .inr (h▸hk)
 ·rintro(⟨i,hi,hk⟩|hk)
  ·exact⟨i,by omega,hk⟩
  ·exact⟨j,by omega,hk⟩
set_option maxRecDepth 100000 in
theorem con52(L:List tyC.I)(b:List AV)(hb:IsB b)(hbl:b.length≤150000000000000)(hl:L.length<1000000000000000)(hok: ∀x,x∈L→tyC.okay x)(h:H):Con E0 18 [.lst 1 b .open_,encL tyC L] h (poolR b L) h:=by
 have hlen:(L.map tyC.elem).length=L.length:=by simp
 have hn:noRefs [.lst 1 b .open_,encL tyC L]=true:=refs2 hb (encL_noRef _ _)
 have f0:fitsC Tryd.prog 24 (tyC.elem tyC.zero)=true:=by kernel_rfl
 have fin: ∀{K:Known} {v:AV},KOK E0 50 [] (bodyOf Tryd.f18) K→(runV (XC 18 [13,21,34,37,48] [clPu 23,clQ,clFi]) K Tryd.f18 (bodyOf Tryd.f18) [.lst 1 b .open_,encL tyC L]).run= .ok v→Le v (poolR b L)→Con E0 18 [.lst 1 b .open_,encL tyC L] h (poolR b L) h:=fun hk hr hle=>
  Con.pureV (X:=XC 18 [13,21,34,37,48] [clPu 23,clQ,clFi]) g0 noG0 calls52 (fn:=Tryd.f18) Tryd.func18 (c:=bodyOf Tryd.f18) rfl rfl (args:= [.lst 1 b .open_,encL tyC L]) hk hn hr hle (poolR_ref hb L) h
 by_cases h8:256<L.length
 ·exact fin (kNo_ok (p:= [1,1,1,1,0,1])) ((congrArg T.run (p52x L b)).trans (bT (decide_eq_true (by rw[hlen];omega)) rfl)) (poolR_no (if_pos h8) (by decide))
 have hR:poolE L=match firstI (fun j=>goodC (L.getD j tyC.zero)=false) L.length with
    |some _=>11
    |none=>(match ask (dupC L L.length)with|true=>8|false=>0):=if_neg h8
 have hmem: ∀j,j<L.length→tyC.okay (L.getD j tyC.zero):=fun j hj=>hok _ (getD_mem hj)
 have hfit: ∀j,j<L.length→goodC (L.getD j tyC.zero)=true→fitC (L.getD j tyC.zero):=fun j hj hg=>((goodC_sp _ (hmem j hj)).2.2 hg).1
 have hgood: ∀{j:Nat},(∀k,k<j→ ¬goodC (L.getD k tyC.zero)=false)→ ∀k,k<j→goodC (L.getD k tyC.zero)=true:=fun h k hk=>by
  cases hg:goodC (L.getD k tyC.zero)with
  |true=>rfl
  |false=>exact absurd hg (h k hk)
 have hqf: ∀j,j<L.length→askQ okFi [.lst 5 (L.map tyC.elem) .open_,tyC.elem (L.getD j tyC.zero)]=true:=fun j hj=>ask_true ⟨L,_,rfl,hl⟩
 have hfq: ∀j,findQ [.lst 5 (L.map tyC.elem) .open_,tyC.elem (L.getD j tyC.zero)]=findC L (L.getD j tyC.zero):=fun j=>findQ_eq L _
 have hqr: ∀j,j<L.length→(∀k,k<j→ ¬goodC (L.getD k tyC.zero)=false)→askQ okR3 [.lst 1 (upB b L j) .open_,tyC.elem (L.getD j tyC.zero)]=true:=fun j hj hpre=>ask_true ⟨_,_,rfl,upB_isB hb L j,by
  have:=upB_len (b:=b) (L:=L) j (by omega) (fun k hk=>hfit k (by omega) (hgood hpre k hk))
  omega,hmem j hj⟩
 have hT:=find_roundsH (E:=E0) (N:=50) (h0:= []) (c:=sub (bodyOf Tryd.f18) [1,1,1,1,0,1,0,0]) (p:=fun j=>goodC (L.getD j tyC.zero)=false) (n:=L.length) (st:=fun j=>st52 L (upB b L j) (ask (dupC L j)) j) (hm:=fun _=> []) (rt:=fun _=> [(4, .nils),(5, .int .i64 11)]) (id:=0)
  (fun j hj hpre hp=>by
   have ht:=p52 L (upB b L j) (ask (dupC L j)) j
   have hg:goodC (L.getD j tyC.zero)=true:=by
    cases hg:goodC (L.getD j tyC.zero)with
    |true=>rfl
    |false=>exact absurd hg hp
   have hd:decide (findC L (L.getD j tyC.zero)<(j:Int))=ask (∃k,k<j∧L.getD k tyC.zero=L.getD j tyC.zero):=ask_iff (by rw[decide_eq_true_iff];exact first_lt (p:=fun k=>L.getD k tyC.zero=L.getD j tyC.zero) hj rfl);rw[idx_ok hj f0,lt_ok hj,Int.toNat_natCast,getD_elem hj,wrap_next (by omega),shape_C,hqr j hj hpre,goodA_eq,hg,hqf j hj,hfq j,hd,putA_eq,hg]at ht;simp only at ht;rw[←upB_next b L j hj]at ht
   cases hdj:ask (dupC L j)with
   |true=>
    have hd1:ask (dupC L (j+1))=true:=ask_true ((dupC_next L j).2 (.inl (ask_of hdj)));rw[hdj]at ht;rw[hd1]
    exact Tri.seen g0 calls52 KOK.none rfl (congrArg T.run ht) (by
     intro q hq;simp only[st52,List.mem_cons,List.not_mem_nil,or_false]at hq
     rcases hq with rfl|rfl|rfl|rfl<;>rfl)
   |false=>
    have hd1:ask (dupC L (j+1))=ask (∃k,k<j∧L.getD k tyC.zero=L.getD j tyC.zero):=by
     refine(ask_iff ?_).symm;rw[dupC_next];exact⟨fun h=> .inr (ask_of h),fun h=>ask_true (h.resolve_left fun hh=>by rw[ask_true hh]at hdj;cases hdj)⟩
    rw[hdj]at ht;rw[hd1]
    exact Tri.seen g0 calls52 KOK.none rfl (congrArg T.run ht) (by
     intro q hq;simp only[st52,List.mem_cons,List.not_mem_nil,or_false]at hq
     rcases hq with rfl|rfl|rfl|rfl<;>rfl))
  (fun j hj hpre hp=>by
   have ht:=p52 L (upB b L j) (ask (dupC L j)) j
   rw[idx_ok hj f0,lt_ok hj,Int.toNat_natCast,getD_elem hj,shape_C,hqr j hj hpre,goodA_eq,hp]at ht
   exact Tri.seen g0 calls52 KOK.none rfl (congrArg T.run ht) (by
    intro q hq;simp only[List.mem_cons,List.not_mem_nil,or_false]at hq
    rcases hq with rfl|rfl<;>rfl))
  (by
   have ht:=p52 L (upB b L L.length) (ask (dupC L L.length)) L.length
   rw[lt_no]at ht
   exact Tri.seen g0 calls52 KOK.none rfl (congrArg T.run ht) (by
    intro q hq;simp only[st52,List.mem_cons,List.not_mem_nil,or_false]at hq
    rcases hq with rfl|rfl|rfl|rfl<;>rfl))
 have e0:upB b L 0=b++numB (((L.map tyC.elem).length:Nat):Int):=by simp[upB]
 have e1:ask (dupC L 0)=false:=ask_false fun⟨i,hi,_⟩=>by omega
 simp only[e0,e1]at hT
 have hS:(askS
 [AV.lst (5:Nat) (List.map tyC.elem L) Tl.open_,
  AV.lst (1:Nat) (b++numB (↑(List.map tyC.elem L).length:Int)) Tl.open_,AV.bool false,
  AV.int IntKind.i64 (0:Int)]
 [AV.lst (5:Nat) (List.map tyC.elem L) Tl.open_,
  AV.lst (1:Nat) (b++numB (↑(List.map tyC.elem L).length:Int)) Tl.open_,AV.bool false,
  AV.int IntKind.i64 (↑(0:Nat):Int)]
 [] [])=true:=askS_self _ _
 have hq0:okPu [.lst 1 b .open_, .int .i64 (((L.map tyC.elem).length:Nat):Int)]:=okPu_of hb (by omega) (by rw[hlen];omega);have hbf:decide ((256:Int)<(((L.map tyC.elem).length:Nat):Int))=false:=decide_eq_false (by rw[hlen];omega)
 cases hf:firstI (fun j=>goodC (L.getD j tyC.zero)=false) L.length with
 |some i=>
  rw[hf]at hT hR;have hk:KOK E0 50 [] (bodyOf Tryd.f18) (kAt [1,1,1,1,0,1] (st52 L (b++numB (((L.map tyC.elem).length:Nat):Int)) false 0) [] .ret [(4, .nils),(5, .int .i64 11)] []):=kAt_ok (Tri.block (id:=0) (Tri.loop hT));exact fin hk ((congrArg T.run (p52s L b)).trans (bF hbf (bA (bT hS rfl) hq0))) (poolR_no hR (by decide))
 |none=>
  rw[hf]at hT hR;have hk:KOK E0 50 [] (bodyOf Tryd.f18) (kAt [1,1,1,1,0,1] (st52 L (b++numB (((L.map tyC.elem).length:Nat):Int)) false 0) [] .normal (st52 L (upB b L L.length) (ask (dupC L L.length)) L.length) []):=kAt_ok (Tri.block (id:=0) (Tri.loop hT))
  have hr:=(congrArg T.run (p52n L b (upB b L L.length) (ask (dupC L L.length))))
  cases hd:ask (dupC L L.length)with
  |true=>
   rw[hd]at hr hR hk;exact fin hk (hr.trans (bF hbf (bA (bT hS rfl) hq0))) (poolR_no hR (by decide))
  |false=>
   rw[hd]at hr hR hk;exact fin hk (hr.trans (bF hbf (bA (bT hS rfl) hq0))) (by unfold poolR;rw[hR,if_pos rfl];exact Le.refl _)
def encN(p:tyK.I×Int):List AV:= [tyK.elem p.1, .int .i64 p.2]
end Go.Proofs.YthnajefdiljneaaDoor.AM
end
section
-- SQUEEZED
/- A number out of bytes, by the program and by the document, as a contract of the symbolic machine. -/
namespace Go.Proofs.YthnajefdiljneaaDoor.AM
open Go Go.Proofs Go.RowKit Go.Proofs.YthnajefdiljneaaDoor Go.Proofs.YthnajefdiljneaaDoorW.PrintWords
set_option linter.unusedVariables false
set_option linter.unusedSimpArgs false
theorem bytes_C{F:Area}{ρ:Rho}{w:World}{v:Value}{l:List Int}(h:CR F ρ w v (.lst 1 (l.map (AV.int .u8)) .open_))(hl:l.length≤9223372036854775807):
  ∃A c,v= .slice A l.length c∧(Kd.int .u8).C w A l.length l∧l.length≤c:=by
 obtain⟨xs,hxs⟩: ∃xs,xs=l.map (AV.int .u8):=⟨_,rfl⟩;rw[←hxs]at h
 have hlen:xs.length=l.length:=by rw[hxs,List.length_map]
 cases h with
 | @lst0 base _ _ ht=>
   have:l= []:=by cases l with
    |nil=>rfl
    |cons a l=>simp at hxs
   subst this;exact⟨base,0,rfl,Kd.C_of_reads (d:=0) ⟨rfl,by simp,fun h=>by simp at h⟩,Nat.le_refl _⟩
 |lst hb hn hsz hF vs h1 h2 hc hr hcl ht=>
  rename_i B o n c cs e fz;refine⟨some ⟨B,o,none⟩,c,by rw[hn,hlen],Kd.C_of_reads (d:=0) ⟨rfl,hl,fun hpos=>⟨⟨B,o,none⟩,rfl,fun j hj=>?_⟩⟩,by omega⟩
  have hx:xs[j]?=some (.int .u8 (l.getD j 0)):=by
   rw[hxs,List.getElem?_map,List.getD_eq_getElem?_getD,List.getElem?_eq_getElem hj];rfl
  have e1:=h1 j _ 0 (.int .u8 (l.getD j 0)) hx rfl
  have e2:=toV_eq (x:= .int .u8 (l.getD j 0)) rfl (h2 j _ 0 (.int .u8 (l.getD j 0)) hx rfl);rw[e2]at e1
  have e3:o+(j*1+0)=o+j:=by omega
  rw[e3]at e1
  have ea:Addr.add ⟨B,o,none⟩ j=⟨B,o+j,none⟩:=by
   unfold Addr.add;split
   ·rename_i h;subst h;rfl
   ·rfl
  rw[ea];simp only[World.cell?,hb,Option.isSome_none,Bool.false_eq_true,if_false];exact e1
noncomputable def getA(bs:List AV)(a:Int):Int×Int×Int:=(R.bin_Get.f (toN bs) a).getD (0,0,0)
def getV(p:Int×Int×Int):AV:= .tup [.int .i64 p.1, .int .i64 p.2.1, .int .i64 p.2.2]
theorem getA_some{bs:List AV}(hb:IsB8 bs)(hl:bs.length<281474976710656)(a:Int):R.bin_Get.f (toN bs) a=some (getA bs a)∧Ev (fun k=>R.hornbookref01_Get.f k (toN bs) a) (getA bs a):=by
 obtain⟨r,h1,h2⟩:=PL.refGet_ev (toN_byte hb) (by rw[toN_len];exact hl) a
 have:getA bs a=r:=by unfold getA;rw[h1];rfl
 rw[this];exact⟨h1,h2⟩
theorem conGet{f:FuncId}{bs:List AV}{a:Int}(hb:IsB8 bs)(hl:bs.length<281474976710656)
  (hen: ∀vs W,(callFunc f vs).run E0.P W= .ok (.enter f vs) W)
  (hc: ∀A c w,(Kd.int .u8).C w A (toN bs).length (toN bs)→(toN bs).length≤c→Calls E0.P f #[.slice A (toN bs).length c, .int .i64 a] w fun e w'=>e= .returned (.tuple #[.int .i64 (getA bs a).1, .int .i64 (getA bs a).2.1, .int .i64 (getA bs a).2.2])∧RowKit.Below w.heap.size w w') (h:H):
  Con E0 f [.lst 1 bs .open_, .int .i64 a] h (getV (getA bs a)) h:=by
 refine Con.of_any (fun F ρ w vs hargs=>⟨hen vs,?_⟩) h;obtain⟨hn,hj⟩:=hargs
 have hsz:vs.toList.length=2:=by rw[hn];rfl
 obtain⟨x,y,hxy⟩: ∃x y,vs.toList= [x,y]:=by
  match h:vs.toList,hsz with
  | [x,y],_=>exact⟨x,y,rfl⟩
 have hvs:vs= #[x,y]:=by rw[←Array.toArray_toList (xs:=vs),hxy]
 have h0:=hj 0 x _ (by rw[hxy];rfl) rfl
 have h1:=toV_eq (x:= .int .i64 a) rfl (hj 1 y _ (by rw[hxy];rfl) rfl);rw[←toN_back hb]at h0;obtain⟨A,c,rfl,hC,hcl⟩:=bytes_C h0 (by rw[toN_len];omega);subst h1;rw[hvs]
 refine(hc A c w hC hcl).mono fun e w' ⟨he,hbl⟩=>⟨_,he,hbl,fun F ρ _=>?_⟩
 exact CR.tup_of ⟨rfl,fun j v y hv hy=>by
  match j,hv,hy with
  |0,hv,hy=>cases hv;cases hy;exact .int _ _
  |1,hv,hy=>cases hv;cases hy;exact .int _ _
  |2,hv,hy=>cases hv;cases hy;exact .int _ _
  |n+3,hv,hy=>cases hv⟩
theorem vb_enc: ∀(m u:Nat),u<128 ^ m→0<m→vb m (u:Int)=(R.vb u).map fun d:Nat=>AV.int .u8 (d:Int)
 |0,u,_,h=>by omega
 |m+1,u,hu,_=>by
  rw[Nat.pow_succ]at hu;simp only[vb]
  by_cases h:u<128
  ·rw[if_neg (by omega),R.vb_small h];rfl
  ·rw[if_pos (by omega),R.vb_big (by omega)]
   have hm:0<m:=by
    rcases Nat.eq_zero_or_pos m with h0|h0
    ·subst h0;simp at hu;omega
    ·exact h0
   have ih:=vb_enc m (u / 128) (by omega) hm
   have e1:(u:Int) / 128=((u / 128:Nat):Int):=by omega
   have e2:(u:Int)%128+128=((u%128+128:Nat):Int):=by omega
   rw[e1,e2,ih];rfl
theorem zg_zig(n:Int):((R.zg n:Nat):Int)=zig n:=by unfold R.zg zig;split<;>split<;>omega
theorem numB_enc{n:Int}(h:PL.i64 n):numB n=(PL.encN n).map (AV.int .u8):=by
 have hz:=R.zg_lt h.1 h.2
 unfold numB PL.encN;rw[←zg_zig,vb_enc 10 _ (Nat.lt_trans hz (by decide)) (by decide),List.map_map];rfl
theorem toN_numB{n:Int}(h:PL.i64 n):toN (numB n)=PL.encN n:=by
 rw[numB_enc h];unfold toN;rw[List.map_map]
 have:(AV.toI ∘ AV.int IntKind.u8)=id:=funext fun _=>rfl
 rw[this,List.map_id]
theorem getA_enc{n:Int}(hn:PL.i64 n)(pre t:List AV)(hb:IsB8 (pre++(numB n++t)))(hl:(pre++(numB n++t)).length<281474976710656):
  getA (pre++(numB n++t)) pre.length=(n,((pre.length+(numB n).length:Nat):Int),0):=by
 have h:=PL.get_enc hn (toN pre) (toN t) (by rw[←toN_numB hn,←toN_append,←toN_append];exact toN_byte hb) (by rw[←toN_numB hn,←toN_append,←toN_append,toN_len];exact hl)
 unfold getA;rw[toN_append,toN_append,toN_numB hn];rw[toN_len]at h;rw[h];rw[numB_enc hn,List.length_map];rfl
theorem getA_res{bs:List AV}(hb:IsB8 bs)(hl:bs.length<281474976710656)(a:Int):
  (∃e,getA bs a=(0,0,e)∧(e=3∨e=4∨e=5))∨ ∃(i:Nat) (n:Int) (t:List AV),a=i∧i≤bs.length∧PL.i64 n∧getA bs a=(n,((i+(numB n).length:Nat):Int),0)∧bs=bs.take i++(numB n++t):=by
 unfold getA
 rcases PL.get_res (toN_byte hb) (by rw[toN_len];exact hl) a with⟨e,h1,h2⟩|⟨i,n,t,h1,h2,h3,h4,h5⟩
 ·rw[h1];exact .inl ⟨e,rfl,h2⟩
 ·rw[h4]
  refine .inr ⟨i,n,t.map (AV.int .u8),h1,by rw[toN_len]at h2;exact h2,h3,?_,?_⟩
  ·rw[numB_enc h3,List.length_map];rfl
  ·have:=congrArg (List.map (AV.int .u8)) h5
   rw[toN_back hb,List.map_append,List.map_append,List.map_take,toN_back hb,←numB_enc h3]at this;exact this
def clAt(f:FuncId)(args:List AV)(r:AV):Cl:=⟨f,fun a=>a=args,fun _=>r⟩
theorem clAt_con{E:Env}{f:FuncId}{args:List AV}{r:AV}(h: ∀m,Con E f args m r m): ∀a,(clAt f args r).ok a→ ∀m,Con E (clAt f args r).f a m ((clAt f args r).res a) m:=by
 rintro a rfl m;exact h m
set_option maxRecDepth 100000 in
theorem conGetP{bs:List AV}(a:Int)(hb:IsB8 bs)(hl:bs.length<281474976710656)(h:H):Con E0 37 [.lst 1 bs .open_, .int .i64 a] h (getV (getA bs a)) h:=
 conGet hb hl (fun vs W=>enters_of Tryd.func37 (by kernel_rfl) rfl _ _) (fun A c w hC hcl=>(R.bin_Get.calls A c (toN bs) a _ _ _ w hC hcl (getA_some hb hl a).1).mono fun e w' ⟨h1,h2⟩=>⟨h1,h2⟩) h
set_option maxRecDepth 100000 in
theorem conGetR{bs:List AV}(a:Int)(hb:IsB8 bs)(hl:bs.length<281474976710656)(h:H):Con E0 40 [.lst 1 bs .open_, .int .i64 a] h (getV (getA bs a)) h:=by
 obtain⟨k,hk⟩:=(getA_some hb hl a).2;exact conGet hb hl (fun vs W=>enters_of Tryd.func40 (by kernel_rfl) rfl _ _) (fun A c w hC hcl=>(R.hornbookref01_Get.calls k A c (toN bs) a _ _ _ w hC hcl (hk k (Nat.le_refl _))).mono fun e w' ⟨h1,h2⟩=>⟨h1,h2⟩) h
def encG(p:List AV×Int):List AV:= [.lst 1 p.1 .open_, .int .i64 p.2]
theorem encG_inj(x y:List AV×Int)(h:encG x=encG y):x=y:=by
 obtain⟨a,b⟩:=x;obtain⟨c,d⟩:=y;simp only[encG,List.cons.injEq,AV.lst.injEq,AV.int.injEq,true_and,and_true]at h;rw[h.1,h.2]
noncomputable def gN:List AV→Int:=pick 0 encG fun p=>(getA p.1 p.2).1
noncomputable def gK:List AV→Int:=pick 0 encG fun p=>(getA p.1 p.2).2.1
noncomputable def gE:List AV→Int:=pick 0 encG fun p=>(getA p.1 p.2).2.2
def okGet(args:List AV):Prop:= ∃(bs:List AV) (a:Int),args= [.lst 1 bs .open_, .int .i64 a]∧IsB8 bs∧bs.length<281474976710656
noncomputable def clGet(f:FuncId):Cl:=⟨f,okGet,fun args=> .tup [.int .i64 (gN args), .int .i64 (gK args), .int .i64 (gE args)]⟩
theorem gN_eq(bs:List AV)(a:Int):gN [.lst 1 bs .open_, .int .i64 a]=(getA bs a).1:=pick_eq encG_inj (bs,a)
theorem gK_eq(bs:List AV)(a:Int):gK [.lst 1 bs .open_, .int .i64 a]=(getA bs a).2.1:=pick_eq encG_inj (bs,a)
theorem gE_eq(bs:List AV)(a:Int):gE [.lst 1 bs .open_, .int .i64 a]=(getA bs a).2.2:=pick_eq encG_inj (bs,a)
theorem clGetP: ∀args,(clGet 37).ok args→ ∀h,Con E0 (clGet 37).f args h ((clGet 37).res args) h:=by
 rintro args ⟨bs,a,rfl,hb,hl⟩ h;show Con E0 _ _ h (.tup [.int .i64 (gN _), .int .i64 (gK _), .int .i64 (gE _)]) h;rw[gN_eq,gK_eq,gE_eq];exact conGetP a hb hl h
theorem clGetR: ∀args,(clGet 40).ok args→ ∀h,Con E0 (clGet 40).f args h ((clGet 40).res args) h:=by
 rintro args ⟨bs,a,rfl,hb,hl⟩ h;show Con E0 _ _ h (.tup [.int .i64 (gN _), .int .i64 (gK _), .int .i64 (gE _)]) h;rw[gN_eq,gK_eq,gE_eq];exact conGetR a hb hl h
end Go.Proofs.YthnajefdiljneaaDoor.AM
end
section
-- SQUEEZED
namespace Go.Proofs.YthnajefdiljneaaDoor.AM
open Go Go.Proofs Go.RowKit Go.Proofs.YthnajefdiljneaaDoor Go.Proofs.YthnajefdiljneaaDoorW.PrintWords
set_option linter.unusedVariables false
set_option linter.unusedSimpArgs false
noncomputable def XT(f g:FuncId)(sp:List Nat)(bs:List AV)(a n k e:Int):SX:=XC f sp [clAt g [.lst 1 bs .open_, .int .i64 a] (.tup [.int .i64 n, .int .i64 k, .int .i64 e])]
noncomputable def getT(bs:List AV)(a most:Int):ByteArray×Int×Int:=
 if(getA bs a).2.2≠0 then(⟨#[]⟩,0,(getA bs a).2.2)
 else if(getA bs a).1<0∨most<(getA bs a).1 then(⟨#[]⟩,0,6)
 else if(bs.length:Int)-(getA bs a).2.1<(getA bs a).1 then(⟨#[]⟩,0,4)
 else(bytesOf ((bs.drop (getA bs a).2.1.toNat).take (getA bs a).1.toNat),(getA bs a).2.1+(getA bs a).1,0)
def txV(p:ByteArray×Int×Int):AV:= .tup [.str p.1, .int .i64 p.2.1, .int .i64 p.2.2]
theorem isBytes_of{l:List AV}(h:IsB l):isBytes l=true:=by
 unfold isBytes;rw[List.all_eq_true];intro y hy;obtain⟨n,rfl⟩:=h y hy;rfl
theorem noRefsB{bs:List AV}(hb:IsB bs){l:List AV}(hl:noRefs l=true):noRefs (.lst 1 bs .open_::l)=true:=by
 simp only[noRefs,noRef,hb.noRefs,hl,Bool.and_true]
noncomputable abbrev subT(bs:List AV)(k n:Int):T AV:=
 (T.br (decide (IntKind.i64.wrap ((bs.length:Int)-k)<n))
      (T.leaf (txV (⟨#[]⟩,0,4)))
      (T.br (decide ((0:Int)≤k))
       (T.br (decide ((0:Int)≤IntKind.i64.wrap (k+n)))
        (T.br (decide (k.toNat≤(IntKind.i64.wrap (k+n)).toNat)&&decide ((IntKind.i64.wrap (k+n)).toNat≤bs.length)&&decide ((IntKind.i64.wrap (k+n)).toNat=(IntKind.i64.wrap (k+n)).toNat))
         (T.br (isBytes (List.take ((IntKind.i64.wrap (k+n)).toNat-k.toNat) (List.drop k.toNat bs)))
          (T.leaf (txV (bytesOf (List.take ((IntKind.i64.wrap (k+n)).toNat-k.toNat) (List.drop k.toNat bs)),IntKind.i64.wrap (k+n),0)))
          T.fail)
         T.fail)
        T.fail)
       T.fail))
theorem runText{t:T AV}{bs:List AV}{a most n k e:Int}(hb:IsB8 bs)(hl:bs.length<281474976710656)(hm:most≤9223372036854775807)(hg:getA bs a=(n,k,e))
  (ht:t=T.br true (T.br (!decide (e=(0:Int)))
   (T.leaf (txV (⟨#[]⟩,0,e)))
   (T.br (decide (n<(0:Int)))
    (T.br true (T.leaf (txV (⟨#[]⟩,0,6))) (subT bs k n))
    (T.br (decide (most<n))
     (T.leaf (txV (⟨#[]⟩,0,6)))
     (subT bs k n)))) T.fail):t.run= .ok (txV (getT bs a most)):=by
 subst ht;unfold getT;rw[hg]
 dsimp only
 refine bT rfl ?_
 rcases getA_res hb hl a with⟨e',h1,h2⟩|⟨i,n',t,h1,h2,h3,h4,h5⟩
 ·rw[hg]at h1;cases h1
  rw[if_pos (by omega)];exact bT (by simp;omega) rfl
 ·rw[hg]at h4;cases h4
  have hlen:i+(numB n).length≤bs.length:=by
   have:=congrArg List.length h5;rw[List.length_append,List.length_append,List.length_take]at this;omega
  rw[if_neg (by simp)]
  refine bF (by simp) ?_
  by_cases hn:n<0
  ·rw[if_pos (.inl hn)];exact bT (decide_eq_true hn) rfl
  ·refine bF (by simpa using hn) ?_
   by_cases hm2:most<n
   ·rw[if_pos (.inr hm2)];exact bT (by simpa using hm2) rfl
   ·rw[if_neg (by omega)]
    refine bF (by simpa using hm2) ?_
    unfold subT;rw[wrapI64 ((bs.length:Int)-((i+(numB n).length:Nat):Int)) (by omega) (by omega)]
    by_cases hs:(bs.length:Int)-((i+(numB n).length:Nat):Int)<n
    ·rw[if_pos hs];exact bT (by simpa using hs) rfl
    ·rw[if_neg hs,wrapI64 (((i+(numB n).length:Nat):Int)+n) (by omega) (by omega)]
     refine bF (decide_eq_false hs) (bT (decide_eq_true (Int.natCast_nonneg _)) (bT (decide_eq_true (by omega)) (bT ?_ (bT ?_ ?_))))
     ·simp only[Bool.and_eq_true,decide_eq_true_eq]
      refine⟨⟨?_,?_⟩,trivial⟩<;>omega
     ·exact isBytes_of fun y hy=>hb.isB y (List.mem_of_mem_drop (List.mem_of_mem_take hy))
     ·rw[show(((i+(numB n).length:Nat):Int)+n).toNat-((i+(numB n).length:Nat):Int).toNat=n.toNat by omega];rfl
theorem p39(bs:List AV)(a most n k e:Int):runV (XT 39 37 [19,23,26,31] bs a n k e) (fun _=>none) Tryd.f39 (bodyOf Tryd.f39) [.lst 1 bs .open_, .int .i64 a, .int .i64 most]=
 (T.br (askQ
 (clAt (37:FuncId) [AV.lst (1:Nat) bs Tl.open_,AV.int IntKind.i64 a]
   (AV.tup [AV.int IntKind.i64 n,AV.int IntKind.i64 k,AV.int IntKind.i64 e])).2
 [AV.lst (1:Nat) bs Tl.open_,AV.int IntKind.i64 a])
  (T.br (!decide (e=(0:Int)))
   (T.leaf (AV.tup [AV.str {data:={toList:= []}},AV.int IntKind.i64 0,AV.int IntKind.i64 e]))
   (T.br (decide (n<(0:Int)))
    (T.br true
     (T.leaf (AV.tup [AV.str {data:={toList:= []}},AV.int IntKind.i64 0,AV.int IntKind.i64 6]))
     (T.br (decide (IntKind.i64.wrap ((↑bs.length:Int)-k)<n))
      (T.leaf (AV.tup [AV.str {data:={toList:= []}},AV.int IntKind.i64 0,AV.int IntKind.i64 4]))
      (T.br (decide ((0:Int)≤k))
       (T.br (decide ((0:Int)≤IntKind.i64.wrap (k+n)))
        (T.br (decide (k.toNat≤(IntKind.i64.wrap (k+n)).toNat)&&
  decide ((IntKind.i64.wrap (k+n)).toNat≤bs.length)&&
 decide ((IntKind.i64.wrap (k+n)).toNat=(IntKind.i64.wrap (k+n)).toNat))
         (T.br (isBytes (List.take ((IntKind.i64.wrap (k+n)).toNat-k.toNat) (List.drop k.toNat bs)))
          (T.leaf (AV.tup
 [AV.str (bytesOf (List.take ((IntKind.i64.wrap (k+n)).toNat-k.toNat) (List.drop k.toNat bs))),
  AV.int IntKind.i64 (IntKind.i64.wrap (k+n)),AV.int IntKind.i64 0]))
          T.fail)
         T.fail)
        T.fail)
       T.fail)))
    (T.br (decide (most<n))
     (T.leaf (AV.tup [AV.str {data:={toList:= []}},AV.int IntKind.i64 0,AV.int IntKind.i64 6]))
     (T.br (decide (IntKind.i64.wrap ((↑bs.length:Int)-k)<n))
      (T.leaf (AV.tup [AV.str {data:={toList:= []}},AV.int IntKind.i64 0,AV.int IntKind.i64 4]))
      (T.br (decide ((0:Int)≤k))
       (T.br (decide ((0:Int)≤IntKind.i64.wrap (k+n)))
        (T.br (decide (k.toNat≤(IntKind.i64.wrap (k+n)).toNat)&&
  decide ((IntKind.i64.wrap (k+n)).toNat≤bs.length)&&
 decide ((IntKind.i64.wrap (k+n)).toNat=(IntKind.i64.wrap (k+n)).toNat))
         (T.br (isBytes (List.take ((IntKind.i64.wrap (k+n)).toNat-k.toNat) (List.drop k.toNat bs)))
          (T.leaf (AV.tup
 [AV.str (bytesOf (List.take ((IntKind.i64.wrap (k+n)).toNat-k.toNat) (List.drop k.toNat bs))),
  AV.int IntKind.i64 (IntKind.i64.wrap (k+n)),AV.int IntKind.i64 0]))
          T.fail)
         T.fail)
        T.fail)
       T.fail)))))
  T.fail):=by kernel_rfl
theorem p41(bs:List AV)(a most n k e:Int):runV (XT 41 40 [20,24,28,34] bs a n k e) (fun _=>none) Tryd.f41 (bodyOf Tryd.f41) [.lst 1 bs .open_, .int .i64 a, .int .i64 most]=
 (T.br (askQ
 (clAt (40:FuncId) [AV.lst (1:Nat) bs Tl.open_,AV.int IntKind.i64 a]
   (AV.tup [AV.int IntKind.i64 n,AV.int IntKind.i64 k,AV.int IntKind.i64 e])).2
 [AV.lst (1:Nat) bs Tl.open_,AV.int IntKind.i64 a])
  (T.br (!decide (e=(0:Int)))
   (T.leaf (AV.tup [AV.str {data:={toList:= []}},AV.int IntKind.i64 0,AV.int IntKind.i64 e]))
   (T.br (decide (n<(0:Int)))
    (T.br true
     (T.leaf (AV.tup [AV.str {data:={toList:= []}},AV.int IntKind.i64 0,AV.int IntKind.i64 6]))
     (T.br (decide (IntKind.i64.wrap ((↑bs.length:Int)-k)<n))
      (T.leaf (AV.tup [AV.str {data:={toList:= []}},AV.int IntKind.i64 0,AV.int IntKind.i64 4]))
      (T.br (decide ((0:Int)≤k))
       (T.br (decide ((0:Int)≤IntKind.i64.wrap (k+n)))
        (T.br (decide (k.toNat≤(IntKind.i64.wrap (k+n)).toNat)&&
  decide ((IntKind.i64.wrap (k+n)).toNat≤bs.length)&&
 decide ((IntKind.i64.wrap (k+n)).toNat=(IntKind.i64.wrap (k+n)).toNat))
         (T.br (isBytes (List.take ((IntKind.i64.wrap (k+n)).toNat-k.toNat) (List.drop k.toNat bs)))
          (T.leaf (AV.tup
 [AV.str (bytesOf (List.take ((IntKind.i64.wrap (k+n)).toNat-k.toNat) (List.drop k.toNat bs))),
  AV.int IntKind.i64 (IntKind.i64.wrap (k+n)),AV.int IntKind.i64 0]))
          T.fail)
         T.fail)
        T.fail)
       T.fail)))
    (T.br (decide (most<n))
     (T.leaf (AV.tup [AV.str {data:={toList:= []}},AV.int IntKind.i64 0,AV.int IntKind.i64 6]))
     (T.br (decide (IntKind.i64.wrap ((↑bs.length:Int)-k)<n))
      (T.leaf (AV.tup [AV.str {data:={toList:= []}},AV.int IntKind.i64 0,AV.int IntKind.i64 4]))
      (T.br (decide ((0:Int)≤k))
       (T.br (decide ((0:Int)≤IntKind.i64.wrap (k+n)))
        (T.br (decide (k.toNat≤(IntKind.i64.wrap (k+n)).toNat)&&
  decide ((IntKind.i64.wrap (k+n)).toNat≤bs.length)&&
 decide ((IntKind.i64.wrap (k+n)).toNat=(IntKind.i64.wrap (k+n)).toNat))
         (T.br (isBytes (List.take ((IntKind.i64.wrap (k+n)).toNat-k.toNat) (List.drop k.toNat bs)))
          (T.leaf (AV.tup
 [AV.str (bytesOf (List.take ((IntKind.i64.wrap (k+n)).toNat-k.toNat) (List.drop k.toNat bs))),
  AV.int IntKind.i64 (IntKind.i64.wrap (k+n)),AV.int IntKind.i64 0]))
          T.fail)
         T.fail)
        T.fail)
       T.fail)))))
  T.fail):=by kernel_rfl
set_option maxRecDepth 100000 in
theorem conTextP{bs:List AV}(a most:Int)(hb:IsB8 bs)(hl:bs.length<281474976710656)(hm:most≤9223372036854775807)(h:H):Con E0 39 [.lst 1 bs .open_, .int .i64 a, .int .i64 most] h (txV (getT bs a most)) h:=by
 obtain⟨n,k,e,hg⟩: ∃n k e,getA bs a=(n,k,e):=⟨_,_,_,rfl⟩
 have hcall:CallOK (XT 39 37 [19,23,26,31] bs a n k e).E (XT 39 37 [19,23,26,31] bs a n k e).calls:=callsBy_ok rfl fun c hc=>by
  obtain rfl:=List.mem_singleton.1 hc
  exact clAt_con fun m=>by have:=conGetP a hb hl m;rw[hg]at this;exact this
 refine Con.pureV (X:=XT 39 37 [19,23,26,31] bs a n k e) g0 noG0 hcall Tryd.func39 (c:=bodyOf Tryd.f39) rfl rfl KOK.none (noRefsB hb.isB rfl) (runText hb hl hm hg ?_) (Le.refl _) rfl h;rw[p39]
 have hq: ∀(x:Cl) (y:List AV),x.ok y→askQ x.2 y=true:=fun x y hxy=>ask_true hxy
 rw[hq _ _ rfl];rfl
set_option maxRecDepth 100000 in
theorem conTextR{bs:List AV}(a most:Int)(hb:IsB8 bs)(hl:bs.length<281474976710656)(hm:most≤9223372036854775807)(h:H):Con E0 41 [.lst 1 bs .open_, .int .i64 a, .int .i64 most] h (txV (getT bs a most)) h:=by
 obtain⟨n,k,e,hg⟩: ∃n k e,getA bs a=(n,k,e):=⟨_,_,_,rfl⟩
 have hcall:CallOK (XT 41 40 [20,24,28,34] bs a n k e).E (XT 41 40 [20,24,28,34] bs a n k e).calls:=callsBy_ok rfl fun c hc=>by
  obtain rfl:=List.mem_singleton.1 hc
  exact clAt_con fun m=>by have:=conGetR a hb hl m;rw[hg]at this;exact this
 refine Con.pureV (X:=XT 41 40 [20,24,28,34] bs a n k e) g0 noG0 hcall Tryd.func41 (c:=bodyOf Tryd.f41) rfl rfl KOK.none (noRefsB hb.isB rfl) (runText hb hl hm hg ?_) (Le.refl _) rfl h;rw[p41]
 have hq: ∀(x:Cl) (y:List AV),x.ok y→askQ x.2 y=true:=fun x y hxy=>ask_true hxy
 rw[hq _ _ rfl];rfl
def encGT(p:List AV×Int×Int):List AV:= [.lst 1 p.1 .open_, .int .i64 p.2.1, .int .i64 p.2.2]
theorem encGT_inj(x y:List AV×Int×Int)(h:encGT x=encGT y):x=y:=by
 obtain⟨a,b,c⟩:=x;obtain⟨a',b',c'⟩:=y;simp only[encGT,List.cons.injEq,AV.lst.injEq,AV.int.injEq,true_and,and_true]at h;rw[h.1,h.2.1,h.2.2]
noncomputable def tS:List AV→ByteArray:=pick ⟨#[]⟩ encGT fun p=>(getT p.1 p.2.1 p.2.2).1
noncomputable def tK:List AV→Int:=pick 0 encGT fun p=>(getT p.1 p.2.1 p.2.2).2.1
noncomputable def tE:List AV→Int:=pick 0 encGT fun p=>(getT p.1 p.2.1 p.2.2).2.2
def okGT(args:List AV):Prop:= ∃(bs:List AV) (a most:Int),args= [.lst 1 bs .open_, .int .i64 a, .int .i64 most]∧IsB8 bs∧bs.length<281474976710656∧most≤9223372036854775807
noncomputable def clGT(f:FuncId):Cl:=⟨f,okGT,fun args=> .tup [.str (tS args), .int .i64 (tK args), .int .i64 (tE args)]⟩
theorem tS_eq(bs:List AV)(a m:Int):tS [.lst 1 bs .open_, .int .i64 a, .int .i64 m]=(getT bs a m).1:=pick_eq encGT_inj (bs,a,m)
theorem tK_eq(bs:List AV)(a m:Int):tK [.lst 1 bs .open_, .int .i64 a, .int .i64 m]=(getT bs a m).2.1:=pick_eq encGT_inj (bs,a,m)
theorem tE_eq(bs:List AV)(a m:Int):tE [.lst 1 bs .open_, .int .i64 a, .int .i64 m]=(getT bs a m).2.2:=pick_eq encGT_inj (bs,a,m)
theorem clGTP: ∀args,(clGT 39).ok args→ ∀h,Con E0 (clGT 39).f args h ((clGT 39).res args) h:=by
 rintro args ⟨bs,a,m,rfl,hb,hl,hm⟩ h;show Con E0 _ _ h (.tup [.str (tS _), .int .i64 (tK _), .int .i64 (tE _)]) h;rw[tS_eq,tK_eq,tE_eq];exact conTextP a m hb hl hm h
theorem clGTR: ∀args,(clGT 41).ok args→ ∀h,Con E0 (clGT 41).f args h ((clGT 41).res args) h:=by
 rintro args ⟨bs,a,m,rfl,hb,hl,hm⟩ h;show Con E0 _ _ h (.tup [.str (tS _), .int .i64 (tK _), .int .i64 (tE _)]) h;rw[tS_eq,tK_eq,tE_eq];exact conTextR a m hb hl hm h
end Go.Proofs.YthnajefdiljneaaDoor.AM
end
section
-- SQUEEZED
namespace Go.Proofs.YthnajefdiljneaaDoor.AM
open Go Go.Proofs Go.RowKit Go.Proofs.YthnajefdiljneaaDoor Go.Proofs.YthnajefdiljneaaDoorW.PrintWords
set_option linter.unusedVariables false
set_option linter.unusedSimpArgs false
noncomputable def tx13:FuncId→List AV→H→T (AV×H):=callsRun [(38,XN 38 [],Tryd.f38,bodyOf Tryd.f38)]
noncomputable def X13(tx:Bool)(sp:List Nat)(bs:List AV)(a n k e:Int):SX:={E:=E0,f:=13,con:=fun _=>false,split:=fun d=>sp.contains d,call:=fun f args h=>if f==38 then(match tx with|true=>tx13 f args h|false=> .fail)else if f==37&&h.length==1 then callsBy [clAt 37 [.lst 1 bs .open_, .int .i64 a] (.tup [.int .i64 n, .int .i64 k, .int .i64 e])] f args h else(match tx with|true=>callsBy [clGet 37,clGT 39,clG 8] f args h|false=> .fail)}
noncomputable def X14(tx:Bool)(sp:List Nat)(bs:List AV)(a n k e:Int):SX:={E:=E0,f:=14,con:=fun _=>false,split:=fun d=>sp.contains d,call:=fun f args h=>if f==40&&h.length==1 then callsBy [clAt 40 [.lst 1 bs .open_, .int .i64 a] (.tup [.int .i64 n, .int .i64 k, .int .i64 e])] f args h else(match tx with|true=>callsBy [clGet 40,clGT 41,clG 9] f args h|false=> .fail)}
theorem p13x(bs:List AV)(a n k e:Int):runV (X13 false [22,27,30,36,47] bs a n k e) (fun _=>none) Tryd.f13 (bodyOf Tryd.f13) [.lst 1 bs .open_, .int .i64 a]=
 (T.br (askQ
 (clAt 37 [.lst 1 bs .open_, .int .i64 a]
   (.tup [.int .i64 n, .int .i64 k, .int .i64 e])).2
 [.lst 1 bs .open_, .int .i64 a])
  (T.br (!decide (e=0))
   (T.leaf (.tup
 [.agg
   [.int .i64 0, .int .i64 0, .str ⟨⟨[]⟩⟩,
    .str ⟨⟨[]⟩⟩, .str ⟨⟨[]⟩⟩],
  .int .i64 0, .int .i64 e]))
   (T.br (decide (n<1))
    (T.br true
     (T.leaf (.tup
 [.agg
   [.int .i64 0, .int .i64 0, .str ⟨⟨[]⟩⟩,
    .str ⟨⟨[]⟩⟩, .str ⟨⟨[]⟩⟩],
  .int .i64 0, .int .i64 11]))
     (T.br (decide (n=1))
      T.fail
      (T.br (decide (n=2))
       T.fail
       T.fail)))
    (T.br (decide (5<n))
     (T.leaf (.tup
 [.agg
   [.int .i64 0, .int .i64 0, .str ⟨⟨[]⟩⟩,
    .str ⟨⟨[]⟩⟩, .str ⟨⟨[]⟩⟩],
  .int .i64 0, .int .i64 11]))
     (T.br (decide (n=1))
      T.fail
      (T.br (decide (n=2))
       T.fail
       T.fail)))))
  T.fail):=by kernel_rfl
theorem p13x_0(bs:List AV)(a n k e:Int)(h0: ¬(e=0)):(runV (X13 false [22,27,30,36,47] bs a n k e) (fun _=>none) Tryd.f13 (bodyOf Tryd.f13) [.lst 1 bs .open_, .int .i64 a]).run= .ok (.tup
 [.agg
   [.int .i64 0, .int .i64 0, .str ⟨⟨[]⟩⟩,
    .str ⟨⟨[]⟩⟩, .str ⟨⟨[]⟩⟩],
  .int .i64 0, .int .i64 e]):=by
 rw[p13x];exact(bT (ask_true rfl) (bT (ndT h0) rfl))
theorem p13x_1(bs:List AV)(a n k e:Int)(h0:e=0)(h1:n<1):(runV (X13 false [22,27,30,36,47] bs a n k e) (fun _=>none) Tryd.f13 (bodyOf Tryd.f13) [.lst 1 bs .open_, .int .i64 a]).run= .ok (.tup
 [.agg
   [.int .i64 0, .int .i64 0, .str ⟨⟨[]⟩⟩,
    .str ⟨⟨[]⟩⟩, .str ⟨⟨[]⟩⟩],
  .int .i64 0, .int .i64 11]):=by
 rw[p13x];exact(bT (ask_true rfl) (bF (ndF h0) (bT (decide_eq_true h1) (bT rfl rfl))))
theorem p13x_2(bs:List AV)(a n k e:Int)(h0:e=0)(h1: ¬(n<1))(h2:5<n):(runV (X13 false [22,27,30,36,47] bs a n k e) (fun _=>none) Tryd.f13 (bodyOf Tryd.f13) [.lst 1 bs .open_, .int .i64 a]).run= .ok (.tup
 [.agg
   [.int .i64 0, .int .i64 0, .str ⟨⟨[]⟩⟩,
    .str ⟨⟨[]⟩⟩, .str ⟨⟨[]⟩⟩],
  .int .i64 0, .int .i64 11]):=by
 rw[p13x];exact(bT (ask_true rfl) (bF (ndF h0) (bF (decide_eq_false h1) (bT (decide_eq_true h2) rfl))))
theorem p14x(bs:List AV)(a n k e:Int):runV (X14 false [21,26,29,35,46,58,60,71,82,87] bs a n k e) (fun _=>none) Tryd.f14 (bodyOf Tryd.f14) [.lst 1 bs .open_, .int .i64 a]=
 (T.br (askQ
 (clAt 40 [.lst 1 bs .open_, .int .i64 a]
   (.tup [.int .i64 n, .int .i64 k, .int .i64 e])).2
 [.lst 1 bs .open_, .int .i64 a])
  (T.br (!decide (e=0))
   (T.leaf (.tup
 [.agg
   [.int .i64 0, .int .i64 0, .str ⟨⟨[]⟩⟩,
    .str ⟨⟨[]⟩⟩, .str ⟨⟨[]⟩⟩],
  .int .i64 0, .int .i64 e]))
   (T.br (decide (n<1))
    (T.br true
     (T.leaf (.tup
 [.agg
   [.int .i64 0, .int .i64 0, .str ⟨⟨[]⟩⟩,
    .str ⟨⟨[]⟩⟩, .str ⟨⟨[]⟩⟩],
  .int .i64 0, .int .i64 11]))
     (T.br (decide (n=1))
      T.fail
      (T.br (decide (n=2))
       T.fail
       T.fail)))
    (T.br (decide (5<n))
     (T.leaf (.tup
 [.agg
   [.int .i64 0, .int .i64 0, .str ⟨⟨[]⟩⟩,
    .str ⟨⟨[]⟩⟩, .str ⟨⟨[]⟩⟩],
  .int .i64 0, .int .i64 11]))
     (T.br (decide (n=1))
      T.fail
      (T.br (decide (n=2))
       T.fail
       T.fail)))))
  T.fail):=by kernel_rfl
theorem p14x_0(bs:List AV)(a n k e:Int)(h0: ¬(e=0)):(runV (X14 false [21,26,29,35,46,58,60,71,82,87] bs a n k e) (fun _=>none) Tryd.f14 (bodyOf Tryd.f14) [.lst 1 bs .open_, .int .i64 a]).run= .ok (.tup
 [.agg
   [.int .i64 0, .int .i64 0, .str ⟨⟨[]⟩⟩,
    .str ⟨⟨[]⟩⟩, .str ⟨⟨[]⟩⟩],
  .int .i64 0, .int .i64 e]):=by
 rw[p14x];exact(bT (ask_true rfl) (bT (ndT h0) rfl))
theorem p14x_1(bs:List AV)(a n k e:Int)(h0:e=0)(h1:n<1):(runV (X14 false [21,26,29,35,46,58,60,71,82,87] bs a n k e) (fun _=>none) Tryd.f14 (bodyOf Tryd.f14) [.lst 1 bs .open_, .int .i64 a]).run= .ok (.tup
 [.agg
   [.int .i64 0, .int .i64 0, .str ⟨⟨[]⟩⟩,
    .str ⟨⟨[]⟩⟩, .str ⟨⟨[]⟩⟩],
  .int .i64 0, .int .i64 11]):=by
 rw[p14x];exact(bT (ask_true rfl) (bF (ndF h0) (bT (decide_eq_true h1) (bT rfl rfl))))
theorem p14x_2(bs:List AV)(a n k e:Int)(h0:e=0)(h1: ¬(n<1))(h2:5<n):(runV (X14 false [21,26,29,35,46,58,60,71,82,87] bs a n k e) (fun _=>none) Tryd.f14 (bodyOf Tryd.f14) [.lst 1 bs .open_, .int .i64 a]).run= .ok (.tup
 [.agg
   [.int .i64 0, .int .i64 0, .str ⟨⟨[]⟩⟩,
    .str ⟨⟨[]⟩⟩, .str ⟨⟨[]⟩⟩],
  .int .i64 0, .int .i64 11]):=by
 rw[p14x];exact(bT (ask_true rfl) (bF (ndF h0) (bF (decide_eq_false h1) (bT (decide_eq_true h2) rfl))))
theorem p13c1(bs:List AV)(a k:Int):runV (X13 true [62,74,79] bs a 1 k 0) (fun _=>none) Tryd.f13 (bodyOf Tryd.f13) [.lst 1 bs .open_, .int .i64 a]=
 (T.br (askQ
 (clAt 37 [.lst 1 bs .open_, .int .i64 a]
   (.tup [.int .i64 1, .int .i64 k, .int .i64 0])).2
 [.lst 1 bs .open_, .int .i64 a])
  (T.br (askQ (clGet 37).2 [.lst 1 bs .open_, .int .i64 k])
   (T.br (!decide (gE [.lst 1 bs .open_, .int .i64 k]=0))
    (T.leaf (.tup
 [.agg
   [.int .i64 0, .int .i64 0, .str ⟨⟨[]⟩⟩,
    .str ⟨⟨[]⟩⟩, .str ⟨⟨[]⟩⟩],
  .int .i64 0, .int .i64 (gE [.lst 1 bs .open_, .int .i64 k])]))
    (T.br (askQ (clG 8).2
 [.agg
   [.int .i64 1, .int .i64 (gN [.lst 1 bs .open_, .int .i64 k]),
    .str ⟨⟨[]⟩⟩, .str ⟨⟨[]⟩⟩, .str ⟨⟨[]⟩⟩]])
     (T.br (!goodA
  [.agg
    [.int .i64 1, .int .i64 (gN [.lst 1 bs .open_, .int .i64 k]),
     .str ⟨⟨[]⟩⟩, .str ⟨⟨[]⟩⟩,
     .str ⟨⟨[]⟩⟩]])
      (T.leaf (.tup
 [.agg
   [.int .i64 0, .int .i64 0, .str ⟨⟨[]⟩⟩,
    .str ⟨⟨[]⟩⟩, .str ⟨⟨[]⟩⟩],
  .int .i64 0, .int .i64 11]))
      (T.leaf (.tup
 [.agg
   [.int .i64 1, .int .i64 (gN [.lst 1 bs .open_, .int .i64 k]),
    .str ⟨⟨[]⟩⟩, .str ⟨⟨[]⟩⟩, .str ⟨⟨[]⟩⟩],
  .int .i64 (gK [.lst 1 bs .open_, .int .i64 k]), .int .i64 0])))
     T.fail))
   T.fail)
  T.fail):=by kernel_rfl
theorem p13c1_0(bs:List AV)(a k:Int)(h0:(askQ (clGet 37).2 [.lst 1 bs .open_, .int .i64 k])=true)(h1: ¬(gE [.lst 1 bs .open_, .int .i64 k]=0)):(runV (X13 true [62,74,79] bs a 1 k 0) (fun _=>none) Tryd.f13 (bodyOf Tryd.f13) [.lst 1 bs .open_, .int .i64 a]).run= .ok (.tup
 [.agg
   [.int .i64 0, .int .i64 0, .str ⟨⟨[]⟩⟩,
    .str ⟨⟨[]⟩⟩, .str ⟨⟨[]⟩⟩],
  .int .i64 0, .int .i64 (gE [.lst 1 bs .open_, .int .i64 k])]):=by
 rw[p13c1];exact(bT (ask_true rfl) (bT h0 (bT (ndT h1) rfl)))
theorem p13c1_1(bs:List AV)(a k:Int)(h0:(askQ (clGet 37).2 [.lst 1 bs .open_, .int .i64 k])=true)(h1:gE [.lst 1 bs .open_, .int .i64 k]=0)(h2:(askQ (clG 8).2
 [.agg
   [.int .i64 1, .int .i64 (gN [.lst 1 bs .open_, .int .i64 k]),
    .str ⟨⟨[]⟩⟩, .str ⟨⟨[]⟩⟩, .str ⟨⟨[]⟩⟩]])=true) (h3:(goodA [.agg [.int .i64 1, .int .i64 (gN [.lst 1 bs .open_, .int .i64 k]), .str ⟨⟨[]⟩⟩, .str ⟨⟨[]⟩⟩, .str ⟨⟨[]⟩⟩]])=false):(runV (X13 true [62,74,79] bs a 1 k 0) (fun _=>none) Tryd.f13 (bodyOf Tryd.f13) [.lst 1 bs .open_, .int .i64 a]).run= .ok (.tup
 [.agg
   [.int .i64 0, .int .i64 0, .str ⟨⟨[]⟩⟩,
    .str ⟨⟨[]⟩⟩, .str ⟨⟨[]⟩⟩],
  .int .i64 0, .int .i64 11]):=by
 rw[p13c1];exact(bT (ask_true rfl) (bT h0 (bF (ndF h1) (bT h2 (bT (by rw[h3];rfl) rfl)))))
theorem p13c1_2(bs:List AV)(a k:Int)(h0:(askQ (clGet 37).2 [.lst 1 bs .open_, .int .i64 k])=true)(h1:gE [.lst 1 bs .open_, .int .i64 k]=0)(h2:(askQ (clG 8).2
 [.agg
   [.int .i64 1, .int .i64 (gN [.lst 1 bs .open_, .int .i64 k]),
    .str ⟨⟨[]⟩⟩, .str ⟨⟨[]⟩⟩, .str ⟨⟨[]⟩⟩]])=true) (h3:(goodA [.agg [.int .i64 1, .int .i64 (gN [.lst 1 bs .open_, .int .i64 k]), .str ⟨⟨[]⟩⟩, .str ⟨⟨[]⟩⟩, .str ⟨⟨[]⟩⟩]])=true):(runV (X13 true [62,74,79] bs a 1 k 0) (fun _=>none) Tryd.f13 (bodyOf Tryd.f13) [.lst 1 bs .open_, .int .i64 a]).run= .ok (.tup
 [.agg
   [.int .i64 1, .int .i64 (gN [.lst 1 bs .open_, .int .i64 k]),
    .str ⟨⟨[]⟩⟩, .str ⟨⟨[]⟩⟩, .str ⟨⟨[]⟩⟩],
  .int .i64 (gK [.lst 1 bs .open_, .int .i64 k]), .int .i64 0]):=by
 rw[p13c1];exact(bT (ask_true rfl) (bT h0 (bF (ndF h1) (bT h2 (bF (by rw[h3];rfl) rfl)))))
theorem p14c1(bs:List AV)(a k:Int):runV (X14 true [60,71,82,87] bs a 1 k 0) (fun _=>none) Tryd.f14 (bodyOf Tryd.f14) [.lst 1 bs .open_, .int .i64 a]=
 (T.br (askQ
 (clAt 40 [.lst 1 bs .open_, .int .i64 a]
   (.tup [.int .i64 1, .int .i64 k, .int .i64 0])).2
 [.lst 1 bs .open_, .int .i64 a])
  (T.br (askQ (clGet 40).2 [.lst 1 bs .open_, .int .i64 k])
   (T.br (!decide (gE [.lst 1 bs .open_, .int .i64 k]=0))
    (T.leaf (.tup
 [.agg
   [.int .i64 0, .int .i64 0, .str ⟨⟨[]⟩⟩,
    .str ⟨⟨[]⟩⟩, .str ⟨⟨[]⟩⟩],
  .int .i64 0, .int .i64 (gE [.lst 1 bs .open_, .int .i64 k])]))
    (T.br (askQ (clG 9).2
 [.agg
   [.int .i64 1, .int .i64 (gN [.lst 1 bs .open_, .int .i64 k]),
    .str ⟨⟨[]⟩⟩, .str ⟨⟨[]⟩⟩, .str ⟨⟨[]⟩⟩]])
     (T.br (!goodA
  [.agg
    [.int .i64 1, .int .i64 (gN [.lst 1 bs .open_, .int .i64 k]),
     .str ⟨⟨[]⟩⟩, .str ⟨⟨[]⟩⟩,
     .str ⟨⟨[]⟩⟩]])
      (T.leaf (.tup
 [.agg
   [.int .i64 0, .int .i64 0, .str ⟨⟨[]⟩⟩,
    .str ⟨⟨[]⟩⟩, .str ⟨⟨[]⟩⟩],
  .int .i64 0, .int .i64 11]))
      (T.leaf (.tup
 [.agg
   [.int .i64 1, .int .i64 (gN [.lst 1 bs .open_, .int .i64 k]),
    .str ⟨⟨[]⟩⟩, .str ⟨⟨[]⟩⟩, .str ⟨⟨[]⟩⟩],
  .int .i64 (gK [.lst 1 bs .open_, .int .i64 k]), .int .i64 0])))
     T.fail))
   T.fail)
  T.fail):=by kernel_rfl
theorem p14c1_0(bs:List AV)(a k:Int)(h0:(askQ (clGet 40).2 [.lst 1 bs .open_, .int .i64 k])=true)(h1: ¬(gE [.lst 1 bs .open_, .int .i64 k]=0)):(runV (X14 true [60,71,82,87] bs a 1 k 0) (fun _=>none) Tryd.f14 (bodyOf Tryd.f14) [.lst 1 bs .open_, .int .i64 a]).run= .ok (.tup
 [.agg
   [.int .i64 0, .int .i64 0, .str ⟨⟨[]⟩⟩,
    .str ⟨⟨[]⟩⟩, .str ⟨⟨[]⟩⟩],
  .int .i64 0, .int .i64 (gE [.lst 1 bs .open_, .int .i64 k])]):=by
 rw[p14c1];exact(bT (ask_true rfl) (bT h0 (bT (ndT h1) rfl)))
theorem p14c1_1(bs:List AV)(a k:Int)(h0:(askQ (clGet 40).2 [.lst 1 bs .open_, .int .i64 k])=true)(h1:gE [.lst 1 bs .open_, .int .i64 k]=0)(h2:(askQ (clG 9).2
 [.agg
   [.int .i64 1, .int .i64 (gN [.lst 1 bs .open_, .int .i64 k]),
    .str ⟨⟨[]⟩⟩, .str ⟨⟨[]⟩⟩, .str ⟨⟨[]⟩⟩]])=true) (h3:(goodA [.agg [.int .i64 1, .int .i64 (gN [.lst 1 bs .open_, .int .i64 k]), .str ⟨⟨[]⟩⟩, .str ⟨⟨[]⟩⟩, .str ⟨⟨[]⟩⟩]])=false):(runV (X14 true [60,71,82,87] bs a 1 k 0) (fun _=>none) Tryd.f14 (bodyOf Tryd.f14) [.lst 1 bs .open_, .int .i64 a]).run= .ok (.tup
 [.agg
   [.int .i64 0, .int .i64 0, .str ⟨⟨[]⟩⟩,
    .str ⟨⟨[]⟩⟩, .str ⟨⟨[]⟩⟩],
  .int .i64 0, .int .i64 11]):=by
 rw[p14c1];exact(bT (ask_true rfl) (bT h0 (bF (ndF h1) (bT h2 (bT (by rw[h3];rfl) rfl)))))
theorem p14c1_2(bs:List AV)(a k:Int)(h0:(askQ (clGet 40).2 [.lst 1 bs .open_, .int .i64 k])=true)(h1:gE [.lst 1 bs .open_, .int .i64 k]=0)(h2:(askQ (clG 9).2
 [.agg
   [.int .i64 1, .int .i64 (gN [.lst 1 bs .open_, .int .i64 k]),
    .str ⟨⟨[]⟩⟩, .str ⟨⟨[]⟩⟩, .str ⟨⟨[]⟩⟩]])=true) (h3:(goodA [.agg [.int .i64 1, .int .i64 (gN [.lst 1 bs .open_, .int .i64 k]), .str ⟨⟨[]⟩⟩, .str ⟨⟨[]⟩⟩, .str ⟨⟨[]⟩⟩]])=true):(runV (X14 true [60,71,82,87] bs a 1 k 0) (fun _=>none) Tryd.f14 (bodyOf Tryd.f14) [.lst 1 bs .open_, .int .i64 a]).run= .ok (.tup
 [.agg
   [.int .i64 1, .int .i64 (gN [.lst 1 bs .open_, .int .i64 k]),
    .str ⟨⟨[]⟩⟩, .str ⟨⟨[]⟩⟩, .str ⟨⟨[]⟩⟩],
  .int .i64 (gK [.lst 1 bs .open_, .int .i64 k]), .int .i64 0]):=by
 rw[p14c1];exact(bT (ask_true rfl) (bT h0 (bF (ndF h1) (bT h2 (bF (by rw[h3];rfl) rfl)))))
theorem p13c2(bs:List AV)(a k:Int):runV (X13 true [62,74,79] bs a 2 k 0) (fun _=>none) Tryd.f13 (bodyOf Tryd.f13) [.lst 1 bs .open_, .int .i64 a]=
 (T.br (askQ
 (clAt 37 [.lst 1 bs .open_, .int .i64 a]
   (.tup [.int .i64 2, .int .i64 k, .int .i64 0])).2
 [.lst 1 bs .open_, .int .i64 a])
  (T.br true
   (T.br true
    (T.br (askQ (clGT 39).2
 [.lst 1 bs .open_, .int .i64 k, .int .i64 64])
         (T.br (!decide
  (tE [.lst 1 bs .open_, .int .i64 k, .int .i64 64]=0))
      (T.leaf (.tup
 [.agg
   [.int .i64 0, .int .i64 0, .str ⟨⟨[]⟩⟩,
    .str ⟨⟨[]⟩⟩, .str ⟨⟨[]⟩⟩],
  .int .i64 0, .int .i64 (tE [.lst 1 bs .open_, .int .i64 k, .int .i64 64])]))
      (T.br (askQ (clG 8).2
 [.agg
   [.int .i64 2, .int .i64 0,
    .str (tS [.lst 1 bs .open_, .int .i64 k, .int .i64 64]),
    .str ⟨⟨[]⟩⟩, .str ⟨⟨[]⟩⟩]])
          (T.br (!goodA
  [.agg
    [.int .i64 2, .int .i64 0,
     .str (tS [.lst 1 bs .open_, .int .i64 k, .int .i64 64]),
     .str ⟨⟨[]⟩⟩, .str ⟨⟨[]⟩⟩]])
           (T.leaf (.tup
 [.agg
   [.int .i64 0, .int .i64 0, .str ⟨⟨[]⟩⟩,
    .str ⟨⟨[]⟩⟩, .str ⟨⟨[]⟩⟩],
  .int .i64 0, .int .i64 11]))
        (T.leaf (.tup
 [.agg
   [.int .i64 2, .int .i64 0,
    .str (tS [.lst 1 bs .open_, .int .i64 k, .int .i64 64]),
    .str ⟨⟨[]⟩⟩, .str ⟨⟨[]⟩⟩],
  .int .i64 (tK [.lst 1 bs .open_, .int .i64 k, .int .i64 64]),
  .int .i64 0])))
            T.fail))
     T.fail)
    (T.br false
     (T.leaf (.tup
 [.agg
   [.int .i64 0, .int .i64 0, .str ⟨⟨[]⟩⟩,
    .str ⟨⟨[]⟩⟩, .str ⟨⟨[]⟩⟩],
  .int .i64 0, .int .i64 0]))
     (T.br (askQ (clG 8).2
 [.agg
   [.int .i64 2, .int .i64 0, .str ⟨⟨[]⟩⟩,
    .str ⟨⟨[]⟩⟩, .str ⟨⟨[]⟩⟩]])
      (T.br (!goodA
  [.agg
    [.int .i64 2, .int .i64 0, .str ⟨⟨[]⟩⟩,
     .str ⟨⟨[]⟩⟩, .str ⟨⟨[]⟩⟩]])
       (T.leaf (.tup
 [.agg
   [.int .i64 0, .int .i64 0, .str ⟨⟨[]⟩⟩,
    .str ⟨⟨[]⟩⟩, .str ⟨⟨[]⟩⟩],
  .int .i64 0, .int .i64 11]))
            (T.leaf (.tup
 [.agg
   [.int .i64 2, .int .i64 0, .str ⟨⟨[]⟩⟩,
    .str ⟨⟨[]⟩⟩, .str ⟨⟨[]⟩⟩],
  .int .i64 k, .int .i64 0])))
      T.fail)))
   T.fail)
  T.fail):=by kernel_rfl
theorem p13c2_0(bs:List AV)(a k:Int)(h0:(askQ (clGT 39).2
 [.lst 1 bs .open_, .int .i64 k, .int .i64 64])=true) (h1: ¬(tE [.lst 1 bs .open_, .int .i64 k, .int .i64 64]=0)):(runV (X13 true [62,74,79] bs a 2 k 0) (fun _=>none) Tryd.f13 (bodyOf Tryd.f13) [.lst 1 bs .open_, .int .i64 a]).run= .ok (.tup
 [.agg
   [.int .i64 0, .int .i64 0, .str ⟨⟨[]⟩⟩,
    .str ⟨⟨[]⟩⟩, .str ⟨⟨[]⟩⟩],
  .int .i64 0, .int .i64 (tE [.lst 1 bs .open_, .int .i64 k, .int .i64 64])]):=by
 rw[p13c2];exact(bT (ask_true rfl) (bT rfl (bT rfl (bT h0 (bT (ndT h1) rfl)))))
theorem p13c2_1(bs:List AV)(a k:Int)(h0:(askQ (clGT 39).2
 [.lst 1 bs .open_, .int .i64 k, .int .i64 64])=true) (h1:tE [.lst 1 bs .open_, .int .i64 k, .int .i64 64]=0) (h2:(askQ (clG 8).2
 [.agg
   [.int .i64 2, .int .i64 0,
    .str (tS [.lst 1 bs .open_, .int .i64 k, .int .i64 64]),
    .str ⟨⟨[]⟩⟩, .str ⟨⟨[]⟩⟩]])=true) (h3:(goodA [.agg [.int .i64 2, .int .i64 0, .str (tS [.lst 1 bs .open_, .int .i64 k, .int .i64 64]), .str ⟨⟨[]⟩⟩, .str ⟨⟨[]⟩⟩]])=false):(runV (X13 true [62,74,79] bs a 2 k 0) (fun _=>none) Tryd.f13 (bodyOf Tryd.f13) [.lst 1 bs .open_, .int .i64 a]).run= .ok (.tup
 [.agg
   [.int .i64 0, .int .i64 0, .str ⟨⟨[]⟩⟩,
    .str ⟨⟨[]⟩⟩, .str ⟨⟨[]⟩⟩],
  .int .i64 0, .int .i64 11]):=by
 rw[p13c2];exact(bT (ask_true rfl) (bT rfl (bT rfl (bT h0 (bF (ndF h1) (bT h2 (bT (by rw[h3];rfl) rfl)))))))
theorem p13c2_2(bs:List AV)(a k:Int)(h0:(askQ (clGT 39).2
 [.lst 1 bs .open_, .int .i64 k, .int .i64 64])=true) (h1:tE [.lst 1 bs .open_, .int .i64 k, .int .i64 64]=0) (h2:(askQ (clG 8).2
 [.agg
   [.int .i64 2, .int .i64 0,
    .str (tS [.lst 1 bs .open_, .int .i64 k, .int .i64 64]),
    .str ⟨⟨[]⟩⟩, .str ⟨⟨[]⟩⟩]])=true) (h3:(goodA [.agg [.int .i64 2, .int .i64 0, .str (tS [.lst 1 bs .open_, .int .i64 k, .int .i64 64]), .str ⟨⟨[]⟩⟩, .str ⟨⟨[]⟩⟩]])=true):(runV (X13 true [62,74,79] bs a 2 k 0) (fun _=>none) Tryd.f13 (bodyOf Tryd.f13) [.lst 1 bs .open_, .int .i64 a]).run= .ok (.tup
 [.agg
   [.int .i64 2, .int .i64 0,
    .str (tS [.lst 1 bs .open_, .int .i64 k, .int .i64 64]),
    .str ⟨⟨[]⟩⟩, .str ⟨⟨[]⟩⟩],
  .int .i64 (tK [.lst 1 bs .open_, .int .i64 k, .int .i64 64]),
  .int .i64 0]):=by
 rw[p13c2];exact(bT (ask_true rfl) (bT rfl (bT rfl (bT h0 (bF (ndF h1) (bT h2 (bF (by rw[h3];rfl) rfl)))))))
theorem p14c2(bs:List AV)(a k:Int):runV (X14 true [60,71,82,87] bs a 2 k 0) (fun _=>none) Tryd.f14 (bodyOf Tryd.f14) [.lst 1 bs .open_, .int .i64 a]=
 (T.br (askQ
 (clAt 40 [.lst 1 bs .open_, .int .i64 a]
   (.tup [.int .i64 2, .int .i64 k, .int .i64 0])).2
 [.lst 1 bs .open_, .int .i64 a])
  (T.br (askQ (clGT 41).2
 [.lst 1 bs .open_, .int .i64 k, .int .i64 64])
   (T.br (!decide
  (tE [.lst 1 bs .open_, .int .i64 k, .int .i64 64]=0))
      (T.leaf (.tup
 [.agg
   [.int .i64 0, .int .i64 0, .str ⟨⟨[]⟩⟩,
    .str ⟨⟨[]⟩⟩, .str ⟨⟨[]⟩⟩],
  .int .i64 0, .int .i64 (tE [.lst 1 bs .open_, .int .i64 k, .int .i64 64])]))
    (T.br (askQ (clG 9).2
 [.agg
   [.int .i64 2, .int .i64 0,
    .str (tS [.lst 1 bs .open_, .int .i64 k, .int .i64 64]),
    .str ⟨⟨[]⟩⟩, .str ⟨⟨[]⟩⟩]])
     (T.br (!goodA
  [.agg
    [.int .i64 2, .int .i64 0,
     .str (tS [.lst 1 bs .open_, .int .i64 k, .int .i64 64]),
     .str ⟨⟨[]⟩⟩, .str ⟨⟨[]⟩⟩]])
      (T.leaf (.tup
 [.agg
   [.int .i64 0, .int .i64 0, .str ⟨⟨[]⟩⟩,
    .str ⟨⟨[]⟩⟩, .str ⟨⟨[]⟩⟩],
  .int .i64 0, .int .i64 11]))
      (T.leaf (.tup
 [.agg
   [.int .i64 2, .int .i64 0,
    .str (tS [.lst 1 bs .open_, .int .i64 k, .int .i64 64]),
    .str ⟨⟨[]⟩⟩, .str ⟨⟨[]⟩⟩],
  .int .i64 (tK [.lst 1 bs .open_, .int .i64 k, .int .i64 64]),
  .int .i64 0])))
     T.fail))
   T.fail)
  T.fail):=by kernel_rfl
theorem p14c2_0(bs:List AV)(a k:Int)(h0:(askQ (clGT 41).2
 [.lst 1 bs .open_, .int .i64 k, .int .i64 64])=true) (h1: ¬(tE [.lst 1 bs .open_, .int .i64 k, .int .i64 64]=0)):(runV (X14 true [60,71,82,87] bs a 2 k 0) (fun _=>none) Tryd.f14 (bodyOf Tryd.f14) [.lst 1 bs .open_, .int .i64 a]).run= .ok (.tup
 [.agg
   [.int .i64 0, .int .i64 0, .str ⟨⟨[]⟩⟩,
    .str ⟨⟨[]⟩⟩, .str ⟨⟨[]⟩⟩],
  .int .i64 0, .int .i64 (tE [.lst 1 bs .open_, .int .i64 k, .int .i64 64])]):=by
 rw[p14c2];exact(bT (ask_true rfl) (bT h0 (bT (ndT h1) rfl)))
theorem p14c2_1(bs:List AV)(a k:Int)(h0:(askQ (clGT 41).2
 [.lst 1 bs .open_, .int .i64 k, .int .i64 64])=true) (h1:tE [.lst 1 bs .open_, .int .i64 k, .int .i64 64]=0) (h2:(askQ (clG 9).2
 [.agg
   [.int .i64 2, .int .i64 0,
    .str (tS [.lst 1 bs .open_, .int .i64 k, .int .i64 64]),
    .str ⟨⟨[]⟩⟩, .str ⟨⟨[]⟩⟩]])=true) (h3:(goodA [.agg [.int .i64 2, .int .i64 0, .str (tS [.lst 1 bs .open_, .int .i64 k, .int .i64 64]), .str ⟨⟨[]⟩⟩, .str ⟨⟨[]⟩⟩]])=false):(runV (X14 true [60,71,82,87] bs a 2 k 0) (fun _=>none) Tryd.f14 (bodyOf Tryd.f14) [.lst 1 bs .open_, .int .i64 a]).run= .ok (.tup
 [.agg
   [.int .i64 0, .int .i64 0, .str ⟨⟨[]⟩⟩,
    .str ⟨⟨[]⟩⟩, .str ⟨⟨[]⟩⟩],
  .int .i64 0, .int .i64 11]):=by
 rw[p14c2];exact(bT (ask_true rfl) (bT h0 (bF (ndF h1) (bT h2 (bT (by rw[h3];rfl) rfl)))))
theorem p14c2_2(bs:List AV)(a k:Int)(h0:(askQ (clGT 41).2
 [.lst 1 bs .open_, .int .i64 k, .int .i64 64])=true) (h1:tE [.lst 1 bs .open_, .int .i64 k, .int .i64 64]=0) (h2:(askQ (clG 9).2
 [.agg
   [.int .i64 2, .int .i64 0,
    .str (tS [.lst 1 bs .open_, .int .i64 k, .int .i64 64]),
    .str ⟨⟨[]⟩⟩, .str ⟨⟨[]⟩⟩]])=true) (h3:(goodA [.agg [.int .i64 2, .int .i64 0, .str (tS [.lst 1 bs .open_, .int .i64 k, .int .i64 64]), .str ⟨⟨[]⟩⟩, .str ⟨⟨[]⟩⟩]])=true):(runV (X14 true [60,71,82,87] bs a 2 k 0) (fun _=>none) Tryd.f14 (bodyOf Tryd.f14) [.lst 1 bs .open_, .int .i64 a]).run= .ok (.tup
 [.agg
   [.int .i64 2, .int .i64 0,
    .str (tS [.lst 1 bs .open_, .int .i64 k, .int .i64 64]),
    .str ⟨⟨[]⟩⟩, .str ⟨⟨[]⟩⟩],
  .int .i64 (tK [.lst 1 bs .open_, .int .i64 k, .int .i64 64]),
  .int .i64 0]):=by
 rw[p14c2];exact(bT (ask_true rfl) (bT h0 (bF (ndF h1) (bT h2 (bF (by rw[h3];rfl) rfl)))))
noncomputable abbrev kA(bs:List AV)(k:Int):Int:=tK [.lst 1 bs .open_, .int .i64 k, .int .i64 256]
noncomputable abbrev eA(bs:List AV)(k:Int):Int:=tE [.lst 1 bs .open_, .int .i64 k, .int .i64 256]
noncomputable abbrev sA(bs:List AV)(k:Int):ByteArray:=tS [.lst 1 bs .open_, .int .i64 k, .int .i64 256]
theorem kA_eq(bs:List AV)(a:Int):kA bs a=(getT bs a 256).2.1:=tK_eq bs a 256
theorem eA_eq(bs:List AV)(a:Int):eA bs a=(getT bs a 256).2.2:=tE_eq bs a 256
theorem sA_eq(bs:List AV)(a:Int):sA bs a=(getT bs a 256).1:=tS_eq bs a 256
theorem p13c3(bs:List AV)(a k:Int):runV (X13 true [62,74,79] bs a 3 k 0) (fun _=>none) Tryd.f13 (bodyOf Tryd.f13) [.lst 1 bs .open_, .int .i64 a]=
 (T.br (askQ
 (clAt 37 [.lst 1 bs .open_, .int .i64 a]
   (.tup [.int .i64 3, .int .i64 k, .int .i64 0])).2
 [.lst 1 bs .open_, .int .i64 a])
  (T.br true
   (T.br true
    (T.br (askQ (clGT 39).2
 [.lst 1 bs .open_, .int .i64 k, .int .i64 256])
         (T.br (!decide
  (eA bs k=0))
      (T.leaf (.tup
 [.agg
   [.int .i64 0, .int .i64 0, .str ⟨⟨[]⟩⟩,
    .str ⟨⟨[]⟩⟩, .str ⟨⟨[]⟩⟩],
  .int .i64 0,
  .int .i64 (eA bs k)]))
      (T.br (askQ (clG 8).2
 [.agg
   [.int .i64 3, .int .i64 0,
    .str (sA bs k),
    .str ⟨⟨[]⟩⟩, .str ⟨⟨[]⟩⟩]])
          (T.br (!goodA
  [.agg
    [.int .i64 3, .int .i64 0,
     .str (sA bs k),
     .str ⟨⟨[]⟩⟩, .str ⟨⟨[]⟩⟩]])
           (T.leaf (.tup
 [.agg
   [.int .i64 0, .int .i64 0, .str ⟨⟨[]⟩⟩,
    .str ⟨⟨[]⟩⟩, .str ⟨⟨[]⟩⟩],
  .int .i64 0, .int .i64 11]))
        (T.leaf (.tup
 [.agg
   [.int .i64 3, .int .i64 0,
    .str (sA bs k),
    .str ⟨⟨[]⟩⟩, .str ⟨⟨[]⟩⟩],
  .int .i64 (kA bs k),
  .int .i64 0])))
            T.fail))
     T.fail)
    (T.br false
     (T.leaf (.tup
 [.agg
   [.int .i64 0, .int .i64 0, .str ⟨⟨[]⟩⟩,
    .str ⟨⟨[]⟩⟩, .str ⟨⟨[]⟩⟩],
  .int .i64 0, .int .i64 0]))
     (T.br (askQ (clG 8).2
 [.agg
   [.int .i64 3, .int .i64 0, .str ⟨⟨[]⟩⟩,
    .str ⟨⟨[]⟩⟩, .str ⟨⟨[]⟩⟩]])
      (T.br (!goodA
  [.agg
    [.int .i64 3, .int .i64 0, .str ⟨⟨[]⟩⟩,
     .str ⟨⟨[]⟩⟩, .str ⟨⟨[]⟩⟩]])
       (T.leaf (.tup
 [.agg
   [.int .i64 0, .int .i64 0, .str ⟨⟨[]⟩⟩,
    .str ⟨⟨[]⟩⟩, .str ⟨⟨[]⟩⟩],
  .int .i64 0, .int .i64 11]))
            (T.leaf (.tup
 [.agg
   [.int .i64 3, .int .i64 0, .str ⟨⟨[]⟩⟩,
    .str ⟨⟨[]⟩⟩, .str ⟨⟨[]⟩⟩],
  .int .i64 k, .int .i64 0])))
      T.fail)))
   T.fail)
  T.fail):=by kernel_rfl
theorem p13c3_0(bs:List AV)(a k:Int)(h0:(askQ (clGT 39).2
 [.lst 1 bs .open_, .int .i64 k, .int .i64 256])=true) (h1: ¬(eA bs k=0)):(runV (X13 true [62,74,79] bs a 3 k 0) (fun _=>none) Tryd.f13 (bodyOf Tryd.f13) [.lst 1 bs .open_, .int .i64 a]).run= .ok (.tup
 [.agg
   [.int .i64 0, .int .i64 0, .str ⟨⟨[]⟩⟩,
    .str ⟨⟨[]⟩⟩, .str ⟨⟨[]⟩⟩],
  .int .i64 0,
  .int .i64 (eA bs k)]):=by
 rw[p13c3];exact(bT (ask_true rfl) (bT rfl (bT rfl (bT h0 (bT (ndT h1) rfl)))))
theorem p13c3_1(bs:List AV)(a k:Int)(h0:(askQ (clGT 39).2
 [.lst 1 bs .open_, .int .i64 k, .int .i64 256])=true) (h1:eA bs k=0) (h2:(askQ (clG 8).2
 [.agg
   [.int .i64 3, .int .i64 0,
    .str (sA bs k),
    .str ⟨⟨[]⟩⟩, .str ⟨⟨[]⟩⟩]])=true) (h3:(goodA [.agg [.int .i64 3, .int .i64 0, .str (sA bs k), .str ⟨⟨[]⟩⟩, .str ⟨⟨[]⟩⟩]])=false):(runV (X13 true [62,74,79] bs a 3 k 0) (fun _=>none) Tryd.f13 (bodyOf Tryd.f13) [.lst 1 bs .open_, .int .i64 a]).run= .ok (.tup
 [.agg
   [.int .i64 0, .int .i64 0, .str ⟨⟨[]⟩⟩,
    .str ⟨⟨[]⟩⟩, .str ⟨⟨[]⟩⟩],
  .int .i64 0, .int .i64 11]):=by
 rw[p13c3];exact(bT (ask_true rfl) (bT rfl (bT rfl (bT h0 (bF (ndF h1) (bT h2 (bT (by rw[h3];rfl) rfl)))))))
theorem p13c3_2(bs:List AV)(a k:Int)(h0:(askQ (clGT 39).2
 [.lst 1 bs .open_, .int .i64 k, .int .i64 256])=true) (h1:eA bs k=0) (h2:(askQ (clG 8).2
 [.agg
   [.int .i64 3, .int .i64 0,
    .str (sA bs k),
    .str ⟨⟨[]⟩⟩, .str ⟨⟨[]⟩⟩]])=true) (h3:(goodA [.agg [.int .i64 3, .int .i64 0, .str (sA bs k), .str ⟨⟨[]⟩⟩, .str ⟨⟨[]⟩⟩]])=true):(runV (X13 true [62,74,79] bs a 3 k 0) (fun _=>none) Tryd.f13 (bodyOf Tryd.f13) [.lst 1 bs .open_, .int .i64 a]).run= .ok (.tup
 [.agg
   [.int .i64 3, .int .i64 0,
    .str (sA bs k),
    .str ⟨⟨[]⟩⟩, .str ⟨⟨[]⟩⟩],
  .int .i64 (kA bs k),
  .int .i64 0]):=by
 rw[p13c3];exact(bT (ask_true rfl) (bT rfl (bT rfl (bT h0 (bF (ndF h1) (bT h2 (bF (by rw[h3];rfl) rfl)))))))
theorem p14c3(bs:List AV)(a k:Int):runV (X14 true [60,71,82,87] bs a 3 k 0) (fun _=>none) Tryd.f14 (bodyOf Tryd.f14) [.lst 1 bs .open_, .int .i64 a]=
 (T.br (askQ
 (clAt 40 [.lst 1 bs .open_, .int .i64 a]
   (.tup [.int .i64 3, .int .i64 k, .int .i64 0])).2
 [.lst 1 bs .open_, .int .i64 a])
  (T.br (askQ (clGT 41).2
 [.lst 1 bs .open_, .int .i64 k, .int .i64 256])
   (T.br (!decide
  (eA bs k=0))
      (T.leaf (.tup
 [.agg
   [.int .i64 0, .int .i64 0, .str ⟨⟨[]⟩⟩,
    .str ⟨⟨[]⟩⟩, .str ⟨⟨[]⟩⟩],
  .int .i64 0,
  .int .i64 (eA bs k)]))
    (T.br (askQ (clG 9).2
 [.agg
   [.int .i64 3, .int .i64 0,
    .str (sA bs k),
    .str ⟨⟨[]⟩⟩, .str ⟨⟨[]⟩⟩]])
     (T.br (!goodA
  [.agg
    [.int .i64 3, .int .i64 0,
     .str (sA bs k),
     .str ⟨⟨[]⟩⟩, .str ⟨⟨[]⟩⟩]])
      (T.leaf (.tup
 [.agg
   [.int .i64 0, .int .i64 0, .str ⟨⟨[]⟩⟩,
    .str ⟨⟨[]⟩⟩, .str ⟨⟨[]⟩⟩],
  .int .i64 0, .int .i64 11]))
      (T.leaf (.tup
 [.agg
   [.int .i64 3, .int .i64 0,
    .str (sA bs k),
    .str ⟨⟨[]⟩⟩, .str ⟨⟨[]⟩⟩],
  .int .i64 (kA bs k),
  .int .i64 0])))
     T.fail))
   T.fail)
  T.fail):=by kernel_rfl
theorem p14c3_0(bs:List AV)(a k:Int)(h0:(askQ (clGT 41).2
 [.lst 1 bs .open_, .int .i64 k, .int .i64 256])=true) (h1: ¬(eA bs k=0)):(runV (X14 true [60,71,82,87] bs a 3 k 0) (fun _=>none) Tryd.f14 (bodyOf Tryd.f14) [.lst 1 bs .open_, .int .i64 a]).run= .ok (.tup
 [.agg
   [.int .i64 0, .int .i64 0, .str ⟨⟨[]⟩⟩,
    .str ⟨⟨[]⟩⟩, .str ⟨⟨[]⟩⟩],
  .int .i64 0,
  .int .i64 (eA bs k)]):=by
 rw[p14c3];exact(bT (ask_true rfl) (bT h0 (bT (ndT h1) rfl)))
theorem p14c3_1(bs:List AV)(a k:Int)(h0:(askQ (clGT 41).2
 [.lst 1 bs .open_, .int .i64 k, .int .i64 256])=true) (h1:eA bs k=0) (h2:(askQ (clG 9).2
 [.agg
   [.int .i64 3, .int .i64 0,
    .str (sA bs k),
    .str ⟨⟨[]⟩⟩, .str ⟨⟨[]⟩⟩]])=true) (h3:(goodA [.agg [.int .i64 3, .int .i64 0, .str (sA bs k), .str ⟨⟨[]⟩⟩, .str ⟨⟨[]⟩⟩]])=false):(runV (X14 true [60,71,82,87] bs a 3 k 0) (fun _=>none) Tryd.f14 (bodyOf Tryd.f14) [.lst 1 bs .open_, .int .i64 a]).run= .ok (.tup
 [.agg
   [.int .i64 0, .int .i64 0, .str ⟨⟨[]⟩⟩,
    .str ⟨⟨[]⟩⟩, .str ⟨⟨[]⟩⟩],
  .int .i64 0, .int .i64 11]):=by
 rw[p14c3];exact(bT (ask_true rfl) (bT h0 (bF (ndF h1) (bT h2 (bT (by rw[h3];rfl) rfl)))))
theorem p14c3_2(bs:List AV)(a k:Int)(h0:(askQ (clGT 41).2
 [.lst 1 bs .open_, .int .i64 k, .int .i64 256])=true) (h1:eA bs k=0) (h2:(askQ (clG 9).2
 [.agg
   [.int .i64 3, .int .i64 0,
    .str (sA bs k),
    .str ⟨⟨[]⟩⟩, .str ⟨⟨[]⟩⟩]])=true) (h3:(goodA [.agg [.int .i64 3, .int .i64 0, .str (sA bs k), .str ⟨⟨[]⟩⟩, .str ⟨⟨[]⟩⟩]])=true):(runV (X14 true [60,71,82,87] bs a 3 k 0) (fun _=>none) Tryd.f14 (bodyOf Tryd.f14) [.lst 1 bs .open_, .int .i64 a]).run= .ok (.tup
 [.agg
   [.int .i64 3, .int .i64 0,
    .str (sA bs k),
    .str ⟨⟨[]⟩⟩, .str ⟨⟨[]⟩⟩],
  .int .i64 (kA bs k),
  .int .i64 0]):=by
 rw[p14c3];exact(bT (ask_true rfl) (bT h0 (bF (ndF h1) (bT h2 (bF (by rw[h3];rfl) rfl)))))
theorem p13c4(bs:List AV)(a k:Int):runV (X13 true [62,74,79] bs a 4 k 0) (fun _=>none) Tryd.f13 (bodyOf Tryd.f13) [.lst 1 bs .open_, .int .i64 a]=
 (T.br (askQ
 (clAt 37 [.lst 1 bs .open_, .int .i64 a]
   (.tup [.int .i64 4, .int .i64 k, .int .i64 0])).2
 [.lst 1 bs .open_, .int .i64 a])
  (T.br true
   (T.br true
    (T.br (askQ (clGT 39).2
 [.lst 1 bs .open_, .int .i64 k, .int .i64 256])
         (T.br true
          (T.br (decide
 (eA bs k=0))
       (T.br (askQ (clGT 39).2
 [.lst 1 bs .open_,
  .int .i64 (kA bs k),
  .int .i64 256])
        (T.br true
         (T.br (decide
 (eA bs (kA bs k)=
  0))
          (T.br (askQ (clGT 39).2
 [.lst 1 bs .open_,
  .int .i64
   (kA bs (kA bs k)),
  .int .i64 256])
           (T.br (!decide
  (eA bs (kA bs (kA bs k))=
   0))
            (T.leaf (.tup
 [.agg
   [.int .i64 0, .int .i64 0, .str ⟨⟨[]⟩⟩,
    .str ⟨⟨[]⟩⟩, .str ⟨⟨[]⟩⟩],
  .int .i64 0,
  .int .i64
   (eA bs (kA bs (kA bs k)))]))
                     (T.br (askQ (clG 8).2
 [.agg
   [.int .i64 4, .int .i64 0,
    .str (sA bs k),
    AV.str
     (sA bs (kA bs k)),
    AV.str
     (sA bs (kA bs (kA bs k)))]])
             (T.br (!goodA
  [.agg
    [.int .i64 4, .int .i64 0,
     .str (sA bs k),
     AV.str
      (sA bs (kA bs k)),
     AV.str
      (sA bs (kA bs (kA bs k)))]])
              (T.leaf (.tup
 [.agg
   [.int .i64 0, .int .i64 0, .str ⟨⟨[]⟩⟩,
    .str ⟨⟨[]⟩⟩, .str ⟨⟨[]⟩⟩],
  .int .i64 0, .int .i64 11]))
              (T.leaf (.tup
 [.agg
   [.int .i64 4, .int .i64 0,
    .str (sA bs k),
    AV.str
     (sA bs (kA bs k)),
    AV.str
     (sA bs (kA bs (kA bs k)))],
  .int .i64
   (kA bs (kA bs (kA bs k))),
  .int .i64 0])))
             T.fail))
           T.fail)
          (T.br (!decide
  (eA bs (kA bs k)=
   0))
           (T.leaf (.tup
 [.agg
   [.int .i64 0, .int .i64 0, .str ⟨⟨[]⟩⟩,
    .str ⟨⟨[]⟩⟩, .str ⟨⟨[]⟩⟩],
  .int .i64 0,
  .int .i64
   (eA bs (kA bs k))]))
           (T.br (askQ (clG 8).2
 [.agg
   [.int .i64 4, .int .i64 0,
    .str (sA bs k),
    AV.str
     (sA bs (kA bs k)),
    .str ⟨⟨[]⟩⟩]])
            (T.br (!goodA
  [.agg
    [.int .i64 4, .int .i64 0,
     .str (sA bs k),
     AV.str
      (sA bs (kA bs k)),
     .str ⟨⟨[]⟩⟩]])
             (T.leaf (.tup
 [.agg
   [.int .i64 0, .int .i64 0, .str ⟨⟨[]⟩⟩,
    .str ⟨⟨[]⟩⟩, .str ⟨⟨[]⟩⟩],
  .int .i64 0, .int .i64 11]))
             (T.leaf (.tup
 [.agg
   [.int .i64 4, .int .i64 0,
    .str (sA bs k),
    AV.str
     (sA bs (kA bs k)),
    .str ⟨⟨[]⟩⟩],
  .int .i64
   (kA bs (kA bs k)),
  .int .i64 0])))
            T.fail)))
         T.fail)
        T.fail)
            (T.br true
             (T.br (decide
 (eA bs k=0))
         (T.br (askQ (clGT 39).2
 [.lst 1 bs .open_,
  .int .i64 (kA bs k),
  .int .i64 256])
          (T.br (!decide
  (eA bs (kA bs k)=
   0))
           (T.leaf (.tup
 [.agg
   [.int .i64 0, .int .i64 0, .str ⟨⟨[]⟩⟩,
    .str ⟨⟨[]⟩⟩, .str ⟨⟨[]⟩⟩],
  .int .i64 0,
  .int .i64
   (eA bs (kA bs k))]))
           (T.br (askQ (clG 8).2
 [.agg
   [.int .i64 4, .int .i64 0,
    .str (sA bs k),
    .str ⟨⟨[]⟩⟩,
    AV.str
     (sA bs (kA bs k))]])
                   (T.br (!goodA
  [.agg
    [.int .i64 4, .int .i64 0,
     .str (sA bs k),
     .str ⟨⟨[]⟩⟩,
     AV.str
      (sA bs (kA bs k))]])
                    (T.leaf (.tup
 [.agg
   [.int .i64 0, .int .i64 0, .str ⟨⟨[]⟩⟩,
    .str ⟨⟨[]⟩⟩, .str ⟨⟨[]⟩⟩],
  .int .i64 0, .int .i64 11]))
             (T.leaf (.tup
 [.agg
   [.int .i64 4, .int .i64 0,
    .str (sA bs k),
    .str ⟨⟨[]⟩⟩,
    AV.str
     (sA bs (kA bs k))],
  .int .i64
   (kA bs (kA bs k)),
  .int .i64 0])))
            T.fail))
          T.fail)
         (T.br (!decide
  (eA bs k=0))
          (T.leaf (.tup
 [.agg
   [.int .i64 0, .int .i64 0, .str ⟨⟨[]⟩⟩,
    .str ⟨⟨[]⟩⟩, .str ⟨⟨[]⟩⟩],
  .int .i64 0,
  .int .i64 (eA bs k)]))
          (T.br (askQ (clG 8).2
 [.agg
   [.int .i64 4, .int .i64 0,
    .str (sA bs k),
    .str ⟨⟨[]⟩⟩, .str ⟨⟨[]⟩⟩]])
           (T.br (!goodA
  [.agg
    [.int .i64 4, .int .i64 0,
     .str (sA bs k),
     .str ⟨⟨[]⟩⟩, .str ⟨⟨[]⟩⟩]])
            (T.leaf (.tup
 [.agg
   [.int .i64 0, .int .i64 0, .str ⟨⟨[]⟩⟩,
    .str ⟨⟨[]⟩⟩, .str ⟨⟨[]⟩⟩],
  .int .i64 0, .int .i64 11]))
            (T.leaf (.tup
 [.agg
   [.int .i64 4, .int .i64 0,
    .str (sA bs k),
    .str ⟨⟨[]⟩⟩, .str ⟨⟨[]⟩⟩],
  .int .i64 (kA bs k),
  .int .i64 0])))
           T.fail)))
        T.fail))
      T.fail)
     T.fail)
    (T.br true
     (T.br true
      (T.br (askQ (clGT 39).2
 [.lst 1 bs .open_, .int .i64 k, .int .i64 256])
       (T.br true
        (T.br (decide
 (eA bs k=0))
         (T.br (askQ (clGT 39).2
 [.lst 1 bs .open_,
  .int .i64 (kA bs k),
  .int .i64 256])
          (T.br (!decide
  (eA bs (kA bs k)=
   0))
           (T.leaf (.tup
 [.agg
   [.int .i64 0, .int .i64 0, .str ⟨⟨[]⟩⟩,
    .str ⟨⟨[]⟩⟩, .str ⟨⟨[]⟩⟩],
  .int .i64 0,
  .int .i64
   (eA bs (kA bs k))]))
           (T.br (askQ (clG 8).2
 [.agg
   [.int .i64 4, .int .i64 0, .str ⟨⟨[]⟩⟩,
    .str (sA bs k),
    AV.str
     (sA bs (kA bs k))]])
                   (T.br (!goodA
  [.agg
    [.int .i64 4, .int .i64 0, .str ⟨⟨[]⟩⟩,
     .str (sA bs k),
     AV.str
      (sA bs (kA bs k))]])
                    (T.leaf (.tup
 [.agg
   [.int .i64 0, .int .i64 0, .str ⟨⟨[]⟩⟩,
    .str ⟨⟨[]⟩⟩, .str ⟨⟨[]⟩⟩],
  .int .i64 0, .int .i64 11]))
             (T.leaf (.tup
 [.agg
   [.int .i64 4, .int .i64 0, .str ⟨⟨[]⟩⟩,
    .str (sA bs k),
    AV.str
     (sA bs (kA bs k))],
  .int .i64
   (kA bs (kA bs k)),
  .int .i64 0])))
            T.fail))
          T.fail)
         (T.br (!decide
  (eA bs k=0))
          (T.leaf (.tup
 [.agg
   [.int .i64 0, .int .i64 0, .str ⟨⟨[]⟩⟩,
    .str ⟨⟨[]⟩⟩, .str ⟨⟨[]⟩⟩],
  .int .i64 0,
  .int .i64 (eA bs k)]))
          (T.br (askQ (clG 8).2
 [.agg
   [.int .i64 4, .int .i64 0, .str ⟨⟨[]⟩⟩,
    .str (sA bs k),
    .str ⟨⟨[]⟩⟩]])
           (T.br (!goodA
  [.agg
    [.int .i64 4, .int .i64 0, .str ⟨⟨[]⟩⟩,
     .str (sA bs k),
     .str ⟨⟨[]⟩⟩]])
            (T.leaf (.tup
 [.agg
   [.int .i64 0, .int .i64 0, .str ⟨⟨[]⟩⟩,
    .str ⟨⟨[]⟩⟩, .str ⟨⟨[]⟩⟩],
  .int .i64 0, .int .i64 11]))
            (T.leaf (.tup
 [.agg
   [.int .i64 4, .int .i64 0, .str ⟨⟨[]⟩⟩,
    .str (sA bs k),
    .str ⟨⟨[]⟩⟩],
  .int .i64 (kA bs k),
  .int .i64 0])))
           T.fail)))
        T.fail)
            T.fail)
      (T.br true
       (T.br true
        (T.br (askQ (clGT 39).2
 [.lst 1 bs .open_, .int .i64 k, .int .i64 256])
         (T.br (!decide
  (eA bs k=0))
          (T.leaf (.tup
 [.agg
   [.int .i64 0, .int .i64 0, .str ⟨⟨[]⟩⟩,
    .str ⟨⟨[]⟩⟩, .str ⟨⟨[]⟩⟩],
  .int .i64 0,
  .int .i64 (eA bs k)]))
          (T.br (askQ (clG 8).2
 [.agg
   [.int .i64 4, .int .i64 0, .str ⟨⟨[]⟩⟩,
    .str ⟨⟨[]⟩⟩,
    .str (sA bs k)]])
           (T.br (!goodA
  [.agg
    [.int .i64 4, .int .i64 0, .str ⟨⟨[]⟩⟩,
     .str ⟨⟨[]⟩⟩,
     .str (sA bs k)]])
            (T.leaf (.tup
 [.agg
   [.int .i64 0, .int .i64 0, .str ⟨⟨[]⟩⟩,
    .str ⟨⟨[]⟩⟩, .str ⟨⟨[]⟩⟩],
  .int .i64 0, .int .i64 11]))
            (T.leaf (.tup
 [.agg
   [.int .i64 4, .int .i64 0, .str ⟨⟨[]⟩⟩,
    .str ⟨⟨[]⟩⟩,
    .str (sA bs k)],
  .int .i64 (kA bs k),
  .int .i64 0])))
           T.fail))
         T.fail)
        (T.br false
         (T.leaf (.tup
 [.agg
   [.int .i64 0, .int .i64 0, .str ⟨⟨[]⟩⟩,
    .str ⟨⟨[]⟩⟩, .str ⟨⟨[]⟩⟩],
  .int .i64 0, .int .i64 0]))
         (T.br (askQ (clG 8).2
 [.agg
   [.int .i64 4, .int .i64 0, .str ⟨⟨[]⟩⟩,
    .str ⟨⟨[]⟩⟩, .str ⟨⟨[]⟩⟩]])
          (T.br (!goodA
  [.agg
    [.int .i64 4, .int .i64 0, .str ⟨⟨[]⟩⟩,
     .str ⟨⟨[]⟩⟩, .str ⟨⟨[]⟩⟩]])
           (T.leaf (.tup
 [.agg
   [.int .i64 0, .int .i64 0, .str ⟨⟨[]⟩⟩,
    .str ⟨⟨[]⟩⟩, .str ⟨⟨[]⟩⟩],
  .int .i64 0, .int .i64 11]))
                    (T.leaf (.tup
 [.agg
   [.int .i64 4, .int .i64 0, .str ⟨⟨[]⟩⟩,
    .str ⟨⟨[]⟩⟩, .str ⟨⟨[]⟩⟩],
  .int .i64 k, .int .i64 0])))
          T.fail)))
            T.fail))
     T.fail))
   T.fail)
  T.fail):=by kernel_rfl
theorem p13c4_0(bs:List AV)(a k:Int)(h0:(askQ (clGT 39).2
 [.lst 1 bs .open_, .int .i64 k, .int .i64 256])=true) (h1:eA bs k=0) (h2:(askQ (clGT 39).2
 [.lst 1 bs .open_,
  .int .i64 (kA bs k),
  .int .i64 256])=true) (h3:eA bs (kA bs k)=
  0) (h4:(askQ (clGT 39).2
 [.lst 1 bs .open_,
  .int .i64
   (kA bs (kA bs k)),
  .int .i64 256])=true) (h5: ¬(eA bs (kA bs (kA bs k))=
   0)):(runV (X13 true [62,74,79] bs a 4 k 0) (fun _=>none) Tryd.f13 (bodyOf Tryd.f13) [.lst 1 bs .open_, .int .i64 a]).run= .ok (.tup
 [.agg
   [.int .i64 0, .int .i64 0, .str ⟨⟨[]⟩⟩,
    .str ⟨⟨[]⟩⟩, .str ⟨⟨[]⟩⟩],
  .int .i64 0,
  .int .i64
   (eA bs (kA bs (kA bs k)))]):=by
 rw[p13c4];exact(bT (ask_true rfl) (bT rfl (bT rfl (bT h0 (bT rfl (bT (decide_eq_true h1) (bT h2 (bT rfl (bT (decide_eq_true h3) (bT h4 (bT (ndT h5) rfl)))))))))))
theorem p13c4_1(bs:List AV)(a k:Int)(h0:(askQ (clGT 39).2
 [.lst 1 bs .open_, .int .i64 k, .int .i64 256])=true) (h1:eA bs k=0) (h2:(askQ (clGT 39).2
 [.lst 1 bs .open_,
  .int .i64 (kA bs k),
  .int .i64 256])=true) (h3:eA bs (kA bs k)=
  0) (h4:(askQ (clGT 39).2
 [.lst 1 bs .open_,
  .int .i64
   (kA bs (kA bs k)),
  .int .i64 256])=true) (h5:eA bs (kA bs (kA bs k))=
   0) (h6:(askQ (clG 8).2
 [.agg
   [.int .i64 4, .int .i64 0,
    .str (sA bs k),
    AV.str
     (sA bs (kA bs k)),
    AV.str
     (sA bs (kA bs (kA bs k)))]])=true) (h7:(goodA [.agg [.int .i64 4, .int .i64 0, .str (sA bs k), .str (sA bs (kA bs k)), .str (sA bs (kA bs (kA bs k)))]])=false):(runV (X13 true [62,74,79] bs a 4 k 0) (fun _=>none) Tryd.f13 (bodyOf Tryd.f13) [.lst 1 bs .open_, .int .i64 a]).run= .ok (.tup
 [.agg
   [.int .i64 0, .int .i64 0, .str ⟨⟨[]⟩⟩,
    .str ⟨⟨[]⟩⟩, .str ⟨⟨[]⟩⟩],
  .int .i64 0, .int .i64 11]):=by
 rw[p13c4];exact(bT (ask_true rfl) (bT rfl (bT rfl (bT h0 (bT rfl (bT (decide_eq_true h1) (bT h2 (bT rfl (bT (decide_eq_true h3) (bT h4 (bF (ndF h5) (bT h6 (bT (by rw[h7];rfl) rfl)))))))))))))
theorem p13c4_2(bs:List AV)(a k:Int)(h0:(askQ (clGT 39).2
 [.lst 1 bs .open_, .int .i64 k, .int .i64 256])=true) (h1:eA bs k=0) (h2:(askQ (clGT 39).2
 [.lst 1 bs .open_,
  .int .i64 (kA bs k),
  .int .i64 256])=true) (h3:eA bs (kA bs k)=
  0) (h4:(askQ (clGT 39).2
 [.lst 1 bs .open_,
  .int .i64
   (kA bs (kA bs k)),
  .int .i64 256])=true) (h5:eA bs (kA bs (kA bs k))=
   0) (h6:(askQ (clG 8).2
 [.agg
   [.int .i64 4, .int .i64 0,
    .str (sA bs k),
    AV.str
     (sA bs (kA bs k)),
    AV.str
     (sA bs (kA bs (kA bs k)))]])=true) (h7:(goodA [.agg [.int .i64 4, .int .i64 0, .str (sA bs k), .str (sA bs (kA bs k)), .str (sA bs (kA bs (kA bs k)))]])=true):(runV (X13 true [62,74,79] bs a 4 k 0) (fun _=>none) Tryd.f13 (bodyOf Tryd.f13) [.lst 1 bs .open_, .int .i64 a]).run= .ok (.tup
 [.agg
   [.int .i64 4, .int .i64 0,
    .str (sA bs k),
    AV.str
     (sA bs (kA bs k)),
    AV.str
     (sA bs (kA bs (kA bs k)))],
  .int .i64
   (kA bs (kA bs (kA bs k))),
  .int .i64 0]):=by
 rw[p13c4];exact(bT (ask_true rfl) (bT rfl (bT rfl (bT h0 (bT rfl (bT (decide_eq_true h1) (bT h2 (bT rfl (bT (decide_eq_true h3) (bT h4 (bF (ndF h5) (bT h6 (bF (by rw[h7];rfl) rfl)))))))))))))
theorem p13c4_3(bs:List AV)(a k:Int)(h0:(askQ (clGT 39).2
 [.lst 1 bs .open_, .int .i64 k, .int .i64 256])=true) (h1:eA bs k=0) (h2:(askQ (clGT 39).2
 [.lst 1 bs .open_,
  .int .i64 (kA bs k),
  .int .i64 256])=true) (h3: ¬(eA bs (kA bs k)=
  0)):(runV (X13 true [62,74,79] bs a 4 k 0) (fun _=>none) Tryd.f13 (bodyOf Tryd.f13) [.lst 1 bs .open_, .int .i64 a]).run= .ok (.tup
 [.agg
   [.int .i64 0, .int .i64 0, .str ⟨⟨[]⟩⟩,
    .str ⟨⟨[]⟩⟩, .str ⟨⟨[]⟩⟩],
  .int .i64 0,
  .int .i64
   (eA bs (kA bs k))]):=by
 rw[p13c4];exact(bT (ask_true rfl) (bT rfl (bT rfl (bT h0 (bT rfl (bT (decide_eq_true h1) (bT h2 (bT rfl (bF (decide_eq_false h3) (bT (ndT h3) rfl))))))))))
theorem p13c4_4(bs:List AV)(a k:Int)(h0:(askQ (clGT 39).2
 [.lst 1 bs .open_, .int .i64 k, .int .i64 256])=true) (h1: ¬(eA bs k=0)):(runV (X13 true [62,74,79] bs a 4 k 0) (fun _=>none) Tryd.f13 (bodyOf Tryd.f13) [.lst 1 bs .open_, .int .i64 a]).run= .ok (.tup
 [.agg
   [.int .i64 0, .int .i64 0, .str ⟨⟨[]⟩⟩,
    .str ⟨⟨[]⟩⟩, .str ⟨⟨[]⟩⟩],
  .int .i64 0,
  .int .i64 (eA bs k)]):=by
 rw[p13c4];exact(bT (ask_true rfl) (bT rfl (bT rfl (bT h0 (bT rfl (bF (decide_eq_false h1) (bT rfl (bF (decide_eq_false h1) (bT (ndT h1) rfl)))))))))
theorem p14c4(bs:List AV)(a k:Int):runV (X14 true [60,71,82,87] bs a 4 k 0) (fun _=>none) Tryd.f14 (bodyOf Tryd.f14) [.lst 1 bs .open_, .int .i64 a]=
 (T.br (askQ
 (clAt 40 [.lst 1 bs .open_, .int .i64 a]
   (.tup [.int .i64 4, .int .i64 k, .int .i64 0])).2
 [.lst 1 bs .open_, .int .i64 a])
  (T.br (askQ (clGT 41).2
 [.lst 1 bs .open_, .int .i64 k, .int .i64 256])
   (T.br (decide
 (eA bs k=0))
    (T.br (askQ (clGT 41).2
 [.lst 1 bs .open_,
  .int .i64 (kA bs k),
  .int .i64 256])
     (T.br (decide
 (eA bs (kA bs k)=
  0))
      (T.br (askQ (clGT 41).2
 [.lst 1 bs .open_,
  .int .i64
   (kA bs (kA bs k)),
  .int .i64 256])
            (T.br (!decide
  (eA bs (kA bs (kA bs k))=
   0))
        (T.leaf (.tup
 [.agg
   [.int .i64 0, .int .i64 0, .str ⟨⟨[]⟩⟩,
    .str ⟨⟨[]⟩⟩, .str ⟨⟨[]⟩⟩],
  .int .i64 0,
  .int .i64
   (eA bs (kA bs (kA bs k)))]))
        (T.br (askQ (clG 9).2
 [.agg
   [.int .i64 4, .int .i64 0,
    .str (sA bs k),
    AV.str
     (sA bs (kA bs k)),
    AV.str
     (sA bs (kA bs (kA bs k)))]])
             (T.br (!goodA
  [.agg
    [.int .i64 4, .int .i64 0,
     .str (sA bs k),
     AV.str
      (sA bs (kA bs k)),
     AV.str
      (sA bs (kA bs (kA bs k)))]])
              (T.leaf (.tup
 [.agg
   [.int .i64 0, .int .i64 0, .str ⟨⟨[]⟩⟩,
    .str ⟨⟨[]⟩⟩, .str ⟨⟨[]⟩⟩],
  .int .i64 0, .int .i64 11]))
          (T.leaf (.tup
 [.agg
   [.int .i64 4, .int .i64 0,
    .str (sA bs k),
    AV.str
     (sA bs (kA bs k)),
    AV.str
     (sA bs (kA bs (kA bs k)))],
  .int .i64
   (kA bs (kA bs (kA bs k))),
  .int .i64 0])))
         T.fail))
            T.fail)
      (T.br (!decide
  (eA bs (kA bs k)=
   0))
       (T.leaf (.tup
 [.agg
   [.int .i64 0, .int .i64 0, .str ⟨⟨[]⟩⟩,
    .str ⟨⟨[]⟩⟩, .str ⟨⟨[]⟩⟩],
  .int .i64 0,
  .int .i64
   (eA bs (kA bs k))]))
           (T.br (askQ (clG 9).2
 [.agg
   [.int .i64 4, .int .i64 0,
    .str (sA bs k),
    AV.str
     (sA bs (kA bs k)),
    .str ⟨⟨[]⟩⟩]])
            (T.br (!goodA
  [.agg
    [.int .i64 4, .int .i64 0,
     .str (sA bs k),
     AV.str
      (sA bs (kA bs k)),
     .str ⟨⟨[]⟩⟩]])
             (T.leaf (.tup
 [.agg
   [.int .i64 0, .int .i64 0, .str ⟨⟨[]⟩⟩,
    .str ⟨⟨[]⟩⟩, .str ⟨⟨[]⟩⟩],
  .int .i64 0, .int .i64 11]))
         (T.leaf (.tup
 [.agg
   [.int .i64 4, .int .i64 0,
    .str (sA bs k),
    AV.str
     (sA bs (kA bs k)),
    .str ⟨⟨[]⟩⟩],
  .int .i64
   (kA bs (kA bs k)),
  .int .i64 0])))
        T.fail)))
     T.fail)
    (T.br (decide
 (eA bs k=0))
     (T.br (askQ (clGT 41).2
 [.lst 1 bs .open_,
  .int .i64 (kA bs k),
  .int .i64 256])
      (T.br (!decide
  (eA bs (kA bs k)=
   0))
       (T.leaf (.tup
 [.agg
   [.int .i64 0, .int .i64 0, .str ⟨⟨[]⟩⟩,
    .str ⟨⟨[]⟩⟩, .str ⟨⟨[]⟩⟩],
  .int .i64 0,
  .int .i64
   (eA bs (kA bs k))]))
           (T.br (askQ (clG 9).2
 [.agg
   [.int .i64 4, .int .i64 0,
    .str (sA bs k),
    .str ⟨⟨[]⟩⟩,
    AV.str
     (sA bs (kA bs k))]])
        (T.br (!goodA
  [.agg
    [.int .i64 4, .int .i64 0,
     .str (sA bs k),
     .str ⟨⟨[]⟩⟩,
     AV.str
      (sA bs (kA bs k))]])
         (T.leaf (.tup
 [.agg
   [.int .i64 0, .int .i64 0, .str ⟨⟨[]⟩⟩,
    .str ⟨⟨[]⟩⟩, .str ⟨⟨[]⟩⟩],
  .int .i64 0, .int .i64 11]))
         (T.leaf (.tup
 [.agg
   [.int .i64 4, .int .i64 0,
    .str (sA bs k),
    .str ⟨⟨[]⟩⟩,
    AV.str
     (sA bs (kA bs k))],
  .int .i64
   (kA bs (kA bs k)),
  .int .i64 0])))
        T.fail))
      T.fail)
     (T.br (!decide
  (eA bs k=0))
      (T.leaf (.tup
 [.agg
   [.int .i64 0, .int .i64 0, .str ⟨⟨[]⟩⟩,
    .str ⟨⟨[]⟩⟩, .str ⟨⟨[]⟩⟩],
  .int .i64 0,
  .int .i64 (eA bs k)]))
      (T.br (askQ (clG 9).2
 [.agg
   [.int .i64 4, .int .i64 0,
    .str (sA bs k),
    .str ⟨⟨[]⟩⟩, .str ⟨⟨[]⟩⟩]])
          (T.br (!goodA
  [.agg
    [.int .i64 4, .int .i64 0,
     .str (sA bs k),
     .str ⟨⟨[]⟩⟩, .str ⟨⟨[]⟩⟩]])
           (T.leaf (.tup
 [.agg
   [.int .i64 0, .int .i64 0, .str ⟨⟨[]⟩⟩,
    .str ⟨⟨[]⟩⟩, .str ⟨⟨[]⟩⟩],
  .int .i64 0, .int .i64 11]))
        (T.leaf (.tup
 [.agg
   [.int .i64 4, .int .i64 0,
    .str (sA bs k),
    .str ⟨⟨[]⟩⟩, .str ⟨⟨[]⟩⟩],
  .int .i64 (kA bs k),
  .int .i64 0])))
            T.fail))))
   T.fail)
  T.fail):=by kernel_rfl
theorem p14c4_0(bs:List AV)(a k:Int)(h0:(askQ (clGT 41).2
 [.lst 1 bs .open_, .int .i64 k, .int .i64 256])=true) (h1:eA bs k=0) (h2:(askQ (clGT 41).2
 [.lst 1 bs .open_,
  .int .i64 (kA bs k),
  .int .i64 256])=true) (h3:eA bs (kA bs k)=
  0) (h4:(askQ (clGT 41).2
 [.lst 1 bs .open_,
  .int .i64
   (kA bs (kA bs k)),
  .int .i64 256])=true) (h5: ¬(eA bs (kA bs (kA bs k))=
   0)):(runV (X14 true [60,71,82,87] bs a 4 k 0) (fun _=>none) Tryd.f14 (bodyOf Tryd.f14) [.lst 1 bs .open_, .int .i64 a]).run= .ok (.tup
 [.agg
   [.int .i64 0, .int .i64 0, .str ⟨⟨[]⟩⟩,
    .str ⟨⟨[]⟩⟩, .str ⟨⟨[]⟩⟩],
  .int .i64 0,
  .int .i64
   (eA bs (kA bs (kA bs k)))]):=by
 rw[p14c4];exact(bT (ask_true rfl) (bT h0 (bT (decide_eq_true h1) (bT h2 (bT (decide_eq_true h3) (bT h4 (bT (ndT h5) rfl)))))))
theorem p14c4_1(bs:List AV)(a k:Int)(h0:(askQ (clGT 41).2
 [.lst 1 bs .open_, .int .i64 k, .int .i64 256])=true) (h1:eA bs k=0) (h2:(askQ (clGT 41).2
 [.lst 1 bs .open_,
  .int .i64 (kA bs k),
  .int .i64 256])=true) (h3:eA bs (kA bs k)=
  0) (h4:(askQ (clGT 41).2
 [.lst 1 bs .open_,
  .int .i64
   (kA bs (kA bs k)),
  .int .i64 256])=true) (h5:eA bs (kA bs (kA bs k))=
   0) (h6:(askQ (clG 9).2
 [.agg
   [.int .i64 4, .int .i64 0,
    .str (sA bs k),
    AV.str
     (sA bs (kA bs k)),
    AV.str
     (sA bs (kA bs (kA bs k)))]])=true) (h7:(goodA [.agg [.int .i64 4, .int .i64 0, .str (sA bs k), .str (sA bs (kA bs k)), .str (sA bs (kA bs (kA bs k)))]])=false):(runV (X14 true [60,71,82,87] bs a 4 k 0) (fun _=>none) Tryd.f14 (bodyOf Tryd.f14) [.lst 1 bs .open_, .int .i64 a]).run= .ok (.tup
 [.agg
   [.int .i64 0, .int .i64 0, .str ⟨⟨[]⟩⟩,
    .str ⟨⟨[]⟩⟩, .str ⟨⟨[]⟩⟩],
  .int .i64 0, .int .i64 11]):=by
 rw[p14c4];exact(bT (ask_true rfl) (bT h0 (bT (decide_eq_true h1) (bT h2 (bT (decide_eq_true h3) (bT h4 (bF (ndF h5) (bT h6 (bT (by rw[h7];rfl) rfl)))))))))
theorem p14c4_2(bs:List AV)(a k:Int)(h0:(askQ (clGT 41).2
 [.lst 1 bs .open_, .int .i64 k, .int .i64 256])=true) (h1:eA bs k=0) (h2:(askQ (clGT 41).2
 [.lst 1 bs .open_,
  .int .i64 (kA bs k),
  .int .i64 256])=true) (h3:eA bs (kA bs k)=
  0) (h4:(askQ (clGT 41).2
 [.lst 1 bs .open_,
  .int .i64
   (kA bs (kA bs k)),
  .int .i64 256])=true) (h5:eA bs (kA bs (kA bs k))=
   0) (h6:(askQ (clG 9).2
 [.agg
   [.int .i64 4, .int .i64 0,
    .str (sA bs k),
    AV.str
     (sA bs (kA bs k)),
    AV.str
     (sA bs (kA bs (kA bs k)))]])=true) (h7:(goodA [.agg [.int .i64 4, .int .i64 0, .str (sA bs k), .str (sA bs (kA bs k)), .str (sA bs (kA bs (kA bs k)))]])=true):(runV (X14 true [60,71,82,87] bs a 4 k 0) (fun _=>none) Tryd.f14 (bodyOf Tryd.f14) [.lst 1 bs .open_, .int .i64 a]).run= .ok (.tup
 [.agg
   [.int .i64 4, .int .i64 0,
    .str (sA bs k),
    AV.str
     (sA bs (kA bs k)),
    AV.str
     (sA bs (kA bs (kA bs k)))],
  .int .i64
   (kA bs (kA bs (kA bs k))),
  .int .i64 0]):=by
 rw[p14c4];exact(bT (ask_true rfl) (bT h0 (bT (decide_eq_true h1) (bT h2 (bT (decide_eq_true h3) (bT h4 (bF (ndF h5) (bT h6 (bF (by rw[h7];rfl) rfl)))))))))
theorem p14c4_3(bs:List AV)(a k:Int)(h0:(askQ (clGT 41).2
 [.lst 1 bs .open_, .int .i64 k, .int .i64 256])=true) (h1:eA bs k=0) (h2:(askQ (clGT 41).2
 [.lst 1 bs .open_,
  .int .i64 (kA bs k),
  .int .i64 256])=true) (h3: ¬(eA bs (kA bs k)=
  0)):(runV (X14 true [60,71,82,87] bs a 4 k 0) (fun _=>none) Tryd.f14 (bodyOf Tryd.f14) [.lst 1 bs .open_, .int .i64 a]).run= .ok (.tup
 [.agg
   [.int .i64 0, .int .i64 0, .str ⟨⟨[]⟩⟩,
    .str ⟨⟨[]⟩⟩, .str ⟨⟨[]⟩⟩],
  .int .i64 0,
  .int .i64
   (eA bs (kA bs k))]):=by
 rw[p14c4];exact(bT (ask_true rfl) (bT h0 (bT (decide_eq_true h1) (bT h2 (bF (decide_eq_false h3) (bT (ndT h3) rfl))))))
theorem p14c4_4(bs:List AV)(a k:Int)(h0:(askQ (clGT 41).2
 [.lst 1 bs .open_, .int .i64 k, .int .i64 256])=true) (h1: ¬(eA bs k=0)):(runV (X14 true [60,71,82,87] bs a 4 k 0) (fun _=>none) Tryd.f14 (bodyOf Tryd.f14) [.lst 1 bs .open_, .int .i64 a]).run= .ok (.tup
 [.agg
   [.int .i64 0, .int .i64 0, .str ⟨⟨[]⟩⟩,
    .str ⟨⟨[]⟩⟩, .str ⟨⟨[]⟩⟩],
  .int .i64 0,
  .int .i64 (eA bs k)]):=by
 rw[p14c4];exact(bT (ask_true rfl) (bT h0 (bF (decide_eq_false h1) (bF (decide_eq_false h1) (bT (ndT h1) rfl)))))
theorem p13c5(bs:List AV)(a k:Int):runV (X13 true [62,74,79] bs a 5 k 0) (fun _=>none) Tryd.f13 (bodyOf Tryd.f13) [.lst 1 bs .open_, .int .i64 a]=
 (T.br (askQ
 (clAt 37 [.lst 1 bs .open_, .int .i64 a]
   (.tup [.int .i64 5, .int .i64 k, .int .i64 0])).2
 [.lst 1 bs .open_, .int .i64 a])
  (T.br true
   (T.br true
    (T.br (askQ (clGT 39).2
 [.lst 1 bs .open_, .int .i64 k, .int .i64 256])
         (T.br true
          (T.br (decide
 (eA bs k=0))
       (T.br (askQ (clGT 39).2
 [.lst 1 bs .open_,
  .int .i64 (kA bs k),
  .int .i64 256])
        (T.br true
         (T.br (decide
 (eA bs (kA bs k)=
  0))
          (T.br (askQ (clGT 39).2
 [.lst 1 bs .open_,
  .int .i64
   (kA bs (kA bs k)),
  .int .i64 256])
           (T.br (!decide
  (eA bs (kA bs (kA bs k))=
   0))
            (T.leaf (.tup
 [.agg
   [.int .i64 0, .int .i64 0, .str ⟨⟨[]⟩⟩,
    .str ⟨⟨[]⟩⟩, .str ⟨⟨[]⟩⟩],
  .int .i64 0,
  .int .i64
   (eA bs (kA bs (kA bs k)))]))
                     (T.br (askQ (clG 8).2
 [.agg
   [.int .i64 5, .int .i64 0,
    .str (sA bs k),
    AV.str
     (sA bs (kA bs k)),
    AV.str
     (sA bs (kA bs (kA bs k)))]])
             (T.br (!goodA
  [.agg
    [.int .i64 5, .int .i64 0,
     .str (sA bs k),
     AV.str
      (sA bs (kA bs k)),
     AV.str
      (sA bs (kA bs (kA bs k)))]])
              (T.leaf (.tup
 [.agg
   [.int .i64 0, .int .i64 0, .str ⟨⟨[]⟩⟩,
    .str ⟨⟨[]⟩⟩, .str ⟨⟨[]⟩⟩],
  .int .i64 0, .int .i64 11]))
              (T.leaf (.tup
 [.agg
   [.int .i64 5, .int .i64 0,
    .str (sA bs k),
    AV.str
     (sA bs (kA bs k)),
    AV.str
     (sA bs (kA bs (kA bs k)))],
  .int .i64
   (kA bs (kA bs (kA bs k))),
  .int .i64 0])))
             T.fail))
           T.fail)
          (T.br (!decide
  (eA bs (kA bs k)=
   0))
           (T.leaf (.tup
 [.agg
   [.int .i64 0, .int .i64 0, .str ⟨⟨[]⟩⟩,
    .str ⟨⟨[]⟩⟩, .str ⟨⟨[]⟩⟩],
  .int .i64 0,
  .int .i64
   (eA bs (kA bs k))]))
           (T.br (askQ (clG 8).2
 [.agg
   [.int .i64 5, .int .i64 0,
    .str (sA bs k),
    AV.str
     (sA bs (kA bs k)),
    .str ⟨⟨[]⟩⟩]])
            (T.br (!goodA
  [.agg
    [.int .i64 5, .int .i64 0,
     .str (sA bs k),
     AV.str
      (sA bs (kA bs k)),
     .str ⟨⟨[]⟩⟩]])
             (T.leaf (.tup
 [.agg
   [.int .i64 0, .int .i64 0, .str ⟨⟨[]⟩⟩,
    .str ⟨⟨[]⟩⟩, .str ⟨⟨[]⟩⟩],
  .int .i64 0, .int .i64 11]))
             (T.leaf (.tup
 [.agg
   [.int .i64 5, .int .i64 0,
    .str (sA bs k),
    AV.str
     (sA bs (kA bs k)),
    .str ⟨⟨[]⟩⟩],
  .int .i64
   (kA bs (kA bs k)),
  .int .i64 0])))
            T.fail)))
         T.fail)
        T.fail)
            (T.br true
             (T.br (decide
 (eA bs k=0))
         (T.br (askQ (clGT 39).2
 [.lst 1 bs .open_,
  .int .i64 (kA bs k),
  .int .i64 256])
          (T.br (!decide
  (eA bs (kA bs k)=
   0))
           (T.leaf (.tup
 [.agg
   [.int .i64 0, .int .i64 0, .str ⟨⟨[]⟩⟩,
    .str ⟨⟨[]⟩⟩, .str ⟨⟨[]⟩⟩],
  .int .i64 0,
  .int .i64
   (eA bs (kA bs k))]))
           (T.br (askQ (clG 8).2
 [.agg
   [.int .i64 5, .int .i64 0,
    .str (sA bs k),
    .str ⟨⟨[]⟩⟩,
    AV.str
     (sA bs (kA bs k))]])
                   (T.br (!goodA
  [.agg
    [.int .i64 5, .int .i64 0,
     .str (sA bs k),
     .str ⟨⟨[]⟩⟩,
     AV.str
      (sA bs (kA bs k))]])
                    (T.leaf (.tup
 [.agg
   [.int .i64 0, .int .i64 0, .str ⟨⟨[]⟩⟩,
    .str ⟨⟨[]⟩⟩, .str ⟨⟨[]⟩⟩],
  .int .i64 0, .int .i64 11]))
             (T.leaf (.tup
 [.agg
   [.int .i64 5, .int .i64 0,
    .str (sA bs k),
    .str ⟨⟨[]⟩⟩,
    AV.str
     (sA bs (kA bs k))],
  .int .i64
   (kA bs (kA bs k)),
  .int .i64 0])))
            T.fail))
          T.fail)
         (T.br (!decide
  (eA bs k=0))
          (T.leaf (.tup
 [.agg
   [.int .i64 0, .int .i64 0, .str ⟨⟨[]⟩⟩,
    .str ⟨⟨[]⟩⟩, .str ⟨⟨[]⟩⟩],
  .int .i64 0,
  .int .i64 (eA bs k)]))
          (T.br (askQ (clG 8).2
 [.agg
   [.int .i64 5, .int .i64 0,
    .str (sA bs k),
    .str ⟨⟨[]⟩⟩, .str ⟨⟨[]⟩⟩]])
           (T.br (!goodA
  [.agg
    [.int .i64 5, .int .i64 0,
     .str (sA bs k),
     .str ⟨⟨[]⟩⟩, .str ⟨⟨[]⟩⟩]])
            (T.leaf (.tup
 [.agg
   [.int .i64 0, .int .i64 0, .str ⟨⟨[]⟩⟩,
    .str ⟨⟨[]⟩⟩, .str ⟨⟨[]⟩⟩],
  .int .i64 0, .int .i64 11]))
            (T.leaf (.tup
 [.agg
   [.int .i64 5, .int .i64 0,
    .str (sA bs k),
    .str ⟨⟨[]⟩⟩, .str ⟨⟨[]⟩⟩],
  .int .i64 (kA bs k),
  .int .i64 0])))
           T.fail)))
        T.fail))
      T.fail)
     T.fail)
    (T.br true
     (T.br true
      (T.br (askQ (clGT 39).2
 [.lst 1 bs .open_, .int .i64 k, .int .i64 256])
       (T.br true
        (T.br (decide
 (eA bs k=0))
         (T.br (askQ (clGT 39).2
 [.lst 1 bs .open_,
  .int .i64 (kA bs k),
  .int .i64 256])
          (T.br (!decide
  (eA bs (kA bs k)=
   0))
           (T.leaf (.tup
 [.agg
   [.int .i64 0, .int .i64 0, .str ⟨⟨[]⟩⟩,
    .str ⟨⟨[]⟩⟩, .str ⟨⟨[]⟩⟩],
  .int .i64 0,
  .int .i64
   (eA bs (kA bs k))]))
           (T.br (askQ (clG 8).2
 [.agg
   [.int .i64 5, .int .i64 0, .str ⟨⟨[]⟩⟩,
    .str (sA bs k),
    AV.str
     (sA bs (kA bs k))]])
                   (T.br (!goodA
  [.agg
    [.int .i64 5, .int .i64 0, .str ⟨⟨[]⟩⟩,
     .str (sA bs k),
     AV.str
      (sA bs (kA bs k))]])
                    (T.leaf (.tup
 [.agg
   [.int .i64 0, .int .i64 0, .str ⟨⟨[]⟩⟩,
    .str ⟨⟨[]⟩⟩, .str ⟨⟨[]⟩⟩],
  .int .i64 0, .int .i64 11]))
             (T.leaf (.tup
 [.agg
   [.int .i64 5, .int .i64 0, .str ⟨⟨[]⟩⟩,
    .str (sA bs k),
    AV.str
     (sA bs (kA bs k))],
  .int .i64
   (kA bs (kA bs k)),
  .int .i64 0])))
            T.fail))
          T.fail)
         (T.br (!decide
  (eA bs k=0))
          (T.leaf (.tup
 [.agg
   [.int .i64 0, .int .i64 0, .str ⟨⟨[]⟩⟩,
    .str ⟨⟨[]⟩⟩, .str ⟨⟨[]⟩⟩],
  .int .i64 0,
  .int .i64 (eA bs k)]))
          (T.br (askQ (clG 8).2
 [.agg
   [.int .i64 5, .int .i64 0, .str ⟨⟨[]⟩⟩,
    .str (sA bs k),
    .str ⟨⟨[]⟩⟩]])
           (T.br (!goodA
  [.agg
    [.int .i64 5, .int .i64 0, .str ⟨⟨[]⟩⟩,
     .str (sA bs k),
     .str ⟨⟨[]⟩⟩]])
            (T.leaf (.tup
 [.agg
   [.int .i64 0, .int .i64 0, .str ⟨⟨[]⟩⟩,
    .str ⟨⟨[]⟩⟩, .str ⟨⟨[]⟩⟩],
  .int .i64 0, .int .i64 11]))
            (T.leaf (.tup
 [.agg
   [.int .i64 5, .int .i64 0, .str ⟨⟨[]⟩⟩,
    .str (sA bs k),
    .str ⟨⟨[]⟩⟩],
  .int .i64 (kA bs k),
  .int .i64 0])))
           T.fail)))
        T.fail)
            T.fail)
      (T.br true
       (T.br true
        (T.br (askQ (clGT 39).2
 [.lst 1 bs .open_, .int .i64 k, .int .i64 256])
         (T.br (!decide
  (eA bs k=0))
          (T.leaf (.tup
 [.agg
   [.int .i64 0, .int .i64 0, .str ⟨⟨[]⟩⟩,
    .str ⟨⟨[]⟩⟩, .str ⟨⟨[]⟩⟩],
  .int .i64 0,
  .int .i64 (eA bs k)]))
          (T.br (askQ (clG 8).2
 [.agg
   [.int .i64 5, .int .i64 0, .str ⟨⟨[]⟩⟩,
    .str ⟨⟨[]⟩⟩,
    .str (sA bs k)]])
           (T.br (!goodA
  [.agg
    [.int .i64 5, .int .i64 0, .str ⟨⟨[]⟩⟩,
     .str ⟨⟨[]⟩⟩,
     .str (sA bs k)]])
            (T.leaf (.tup
 [.agg
   [.int .i64 0, .int .i64 0, .str ⟨⟨[]⟩⟩,
    .str ⟨⟨[]⟩⟩, .str ⟨⟨[]⟩⟩],
  .int .i64 0, .int .i64 11]))
            (T.leaf (.tup
 [.agg
   [.int .i64 5, .int .i64 0, .str ⟨⟨[]⟩⟩,
    .str ⟨⟨[]⟩⟩,
    .str (sA bs k)],
  .int .i64 (kA bs k),
  .int .i64 0])))
           T.fail))
         T.fail)
        (T.br false
         (T.leaf (.tup
 [.agg
   [.int .i64 0, .int .i64 0, .str ⟨⟨[]⟩⟩,
    .str ⟨⟨[]⟩⟩, .str ⟨⟨[]⟩⟩],
  .int .i64 0, .int .i64 0]))
         (T.br (askQ (clG 8).2
 [.agg
   [.int .i64 5, .int .i64 0, .str ⟨⟨[]⟩⟩,
    .str ⟨⟨[]⟩⟩, .str ⟨⟨[]⟩⟩]])
          (T.br (!goodA
  [.agg
    [.int .i64 5, .int .i64 0, .str ⟨⟨[]⟩⟩,
     .str ⟨⟨[]⟩⟩, .str ⟨⟨[]⟩⟩]])
           (T.leaf (.tup
 [.agg
   [.int .i64 0, .int .i64 0, .str ⟨⟨[]⟩⟩,
    .str ⟨⟨[]⟩⟩, .str ⟨⟨[]⟩⟩],
  .int .i64 0, .int .i64 11]))
                    (T.leaf (.tup
 [.agg
   [.int .i64 5, .int .i64 0, .str ⟨⟨[]⟩⟩,
    .str ⟨⟨[]⟩⟩, .str ⟨⟨[]⟩⟩],
  .int .i64 k, .int .i64 0])))
          T.fail)))
            T.fail))
     T.fail))
   T.fail)
  T.fail):=by kernel_rfl
theorem p13c5_0(bs:List AV)(a k:Int)(h0:(askQ (clGT 39).2
 [.lst 1 bs .open_, .int .i64 k, .int .i64 256])=true) (h1:eA bs k=0) (h2:(askQ (clGT 39).2
 [.lst 1 bs .open_,
  .int .i64 (kA bs k),
  .int .i64 256])=true) (h3:eA bs (kA bs k)=
  0) (h4:(askQ (clGT 39).2
 [.lst 1 bs .open_,
  .int .i64
   (kA bs (kA bs k)),
  .int .i64 256])=true) (h5: ¬(eA bs (kA bs (kA bs k))=
   0)):(runV (X13 true [62,74,79] bs a 5 k 0) (fun _=>none) Tryd.f13 (bodyOf Tryd.f13) [.lst 1 bs .open_, .int .i64 a]).run= .ok (.tup
 [.agg
   [.int .i64 0, .int .i64 0, .str ⟨⟨[]⟩⟩,
    .str ⟨⟨[]⟩⟩, .str ⟨⟨[]⟩⟩],
  .int .i64 0,
  .int .i64
   (eA bs (kA bs (kA bs k)))]):=by
 rw[p13c5];exact(bT (ask_true rfl) (bT rfl (bT rfl (bT h0 (bT rfl (bT (decide_eq_true h1) (bT h2 (bT rfl (bT (decide_eq_true h3) (bT h4 (bT (ndT h5) rfl)))))))))))
theorem p13c5_1(bs:List AV)(a k:Int)(h0:(askQ (clGT 39).2
 [.lst 1 bs .open_, .int .i64 k, .int .i64 256])=true) (h1:eA bs k=0) (h2:(askQ (clGT 39).2
 [.lst 1 bs .open_,
  .int .i64 (kA bs k),
  .int .i64 256])=true) (h3:eA bs (kA bs k)=
  0) (h4:(askQ (clGT 39).2
 [.lst 1 bs .open_,
  .int .i64
   (kA bs (kA bs k)),
  .int .i64 256])=true) (h5:eA bs (kA bs (kA bs k))=
   0) (h6:(askQ (clG 8).2
 [.agg
   [.int .i64 5, .int .i64 0,
    .str (sA bs k),
    AV.str
     (sA bs (kA bs k)),
    AV.str
     (sA bs (kA bs (kA bs k)))]])=true) (h7:(goodA [.agg [.int .i64 5, .int .i64 0, .str (sA bs k), .str (sA bs (kA bs k)), .str (sA bs (kA bs (kA bs k)))]])=false):(runV (X13 true [62,74,79] bs a 5 k 0) (fun _=>none) Tryd.f13 (bodyOf Tryd.f13) [.lst 1 bs .open_, .int .i64 a]).run= .ok (.tup
 [.agg
   [.int .i64 0, .int .i64 0, .str ⟨⟨[]⟩⟩,
    .str ⟨⟨[]⟩⟩, .str ⟨⟨[]⟩⟩],
  .int .i64 0, .int .i64 11]):=by
 rw[p13c5];exact(bT (ask_true rfl) (bT rfl (bT rfl (bT h0 (bT rfl (bT (decide_eq_true h1) (bT h2 (bT rfl (bT (decide_eq_true h3) (bT h4 (bF (ndF h5) (bT h6 (bT (by rw[h7];rfl) rfl)))))))))))))
theorem p13c5_2(bs:List AV)(a k:Int)(h0:(askQ (clGT 39).2
 [.lst 1 bs .open_, .int .i64 k, .int .i64 256])=true) (h1:eA bs k=0) (h2:(askQ (clGT 39).2
 [.lst 1 bs .open_,
  .int .i64 (kA bs k),
  .int .i64 256])=true) (h3:eA bs (kA bs k)=
  0) (h4:(askQ (clGT 39).2
 [.lst 1 bs .open_,
  .int .i64
   (kA bs (kA bs k)),
  .int .i64 256])=true) (h5:eA bs (kA bs (kA bs k))=
   0) (h6:(askQ (clG 8).2
 [.agg
   [.int .i64 5, .int .i64 0,
    .str (sA bs k),
    AV.str
     (sA bs (kA bs k)),
    AV.str
     (sA bs (kA bs (kA bs k)))]])=true) (h7:(goodA [.agg [.int .i64 5, .int .i64 0, .str (sA bs k), .str (sA bs (kA bs k)), .str (sA bs (kA bs (kA bs k)))]])=true):(runV (X13 true [62,74,79] bs a 5 k 0) (fun _=>none) Tryd.f13 (bodyOf Tryd.f13) [.lst 1 bs .open_, .int .i64 a]).run= .ok (.tup
 [.agg
   [.int .i64 5, .int .i64 0,
    .str (sA bs k),
    AV.str
     (sA bs (kA bs k)),
    AV.str
     (sA bs (kA bs (kA bs k)))],
  .int .i64
   (kA bs (kA bs (kA bs k))),
  .int .i64 0]):=by
 rw[p13c5];exact(bT (ask_true rfl) (bT rfl (bT rfl (bT h0 (bT rfl (bT (decide_eq_true h1) (bT h2 (bT rfl (bT (decide_eq_true h3) (bT h4 (bF (ndF h5) (bT h6 (bF (by rw[h7];rfl) rfl)))))))))))))
theorem p13c5_3(bs:List AV)(a k:Int)(h0:(askQ (clGT 39).2
 [.lst 1 bs .open_, .int .i64 k, .int .i64 256])=true) (h1:eA bs k=0) (h2:(askQ (clGT 39).2
 [.lst 1 bs .open_,
  .int .i64 (kA bs k),
  .int .i64 256])=true) (h3: ¬(eA bs (kA bs k)=
  0)):(runV (X13 true [62,74,79] bs a 5 k 0) (fun _=>none) Tryd.f13 (bodyOf Tryd.f13) [.lst 1 bs .open_, .int .i64 a]).run= .ok (.tup
 [.agg
   [.int .i64 0, .int .i64 0, .str ⟨⟨[]⟩⟩,
    .str ⟨⟨[]⟩⟩, .str ⟨⟨[]⟩⟩],
  .int .i64 0,
  .int .i64
   (eA bs (kA bs k))]):=by
 rw[p13c5];exact(bT (ask_true rfl) (bT rfl (bT rfl (bT h0 (bT rfl (bT (decide_eq_true h1) (bT h2 (bT rfl (bF (decide_eq_false h3) (bT (ndT h3) rfl))))))))))
theorem p13c5_4(bs:List AV)(a k:Int)(h0:(askQ (clGT 39).2
 [.lst 1 bs .open_, .int .i64 k, .int .i64 256])=true) (h1: ¬(eA bs k=0)):(runV (X13 true [62,74,79] bs a 5 k 0) (fun _=>none) Tryd.f13 (bodyOf Tryd.f13) [.lst 1 bs .open_, .int .i64 a]).run= .ok (.tup
 [.agg
   [.int .i64 0, .int .i64 0, .str ⟨⟨[]⟩⟩,
    .str ⟨⟨[]⟩⟩, .str ⟨⟨[]⟩⟩],
  .int .i64 0,
  .int .i64 (eA bs k)]):=by
 rw[p13c5];exact(bT (ask_true rfl) (bT rfl (bT rfl (bT h0 (bT rfl (bF (decide_eq_false h1) (bT rfl (bF (decide_eq_false h1) (bT (ndT h1) rfl)))))))))
theorem p14c5(bs:List AV)(a k:Int):runV (X14 true [60,71,82,87] bs a 5 k 0) (fun _=>none) Tryd.f14 (bodyOf Tryd.f14) [.lst 1 bs .open_, .int .i64 a]=
 (T.br (askQ
 (clAt 40 [.lst 1 bs .open_, .int .i64 a]
   (.tup [.int .i64 5, .int .i64 k, .int .i64 0])).2
 [.lst 1 bs .open_, .int .i64 a])
  (T.br (askQ (clGT 41).2
 [.lst 1 bs .open_, .int .i64 k, .int .i64 256])
   (T.br (decide
 (eA bs k=0))
    (T.br (askQ (clGT 41).2
 [.lst 1 bs .open_,
  .int .i64 (kA bs k),
  .int .i64 256])
     (T.br (decide
 (eA bs (kA bs k)=
  0))
      (T.br (askQ (clGT 41).2
 [.lst 1 bs .open_,
  .int .i64
   (kA bs (kA bs k)),
  .int .i64 256])
            (T.br (!decide
  (eA bs (kA bs (kA bs k))=
   0))
        (T.leaf (.tup
 [.agg
   [.int .i64 0, .int .i64 0, .str ⟨⟨[]⟩⟩,
    .str ⟨⟨[]⟩⟩, .str ⟨⟨[]⟩⟩],
  .int .i64 0,
  .int .i64
   (eA bs (kA bs (kA bs k)))]))
        (T.br (askQ (clG 9).2
 [.agg
   [.int .i64 5, .int .i64 0,
    .str (sA bs k),
    AV.str
     (sA bs (kA bs k)),
    AV.str
     (sA bs (kA bs (kA bs k)))]])
             (T.br (!goodA
  [.agg
    [.int .i64 5, .int .i64 0,
     .str (sA bs k),
     AV.str
      (sA bs (kA bs k)),
     AV.str
      (sA bs (kA bs (kA bs k)))]])
              (T.leaf (.tup
 [.agg
   [.int .i64 0, .int .i64 0, .str ⟨⟨[]⟩⟩,
    .str ⟨⟨[]⟩⟩, .str ⟨⟨[]⟩⟩],
  .int .i64 0, .int .i64 11]))
          (T.leaf (.tup
 [.agg
   [.int .i64 5, .int .i64 0,
    .str (sA bs k),
    AV.str
     (sA bs (kA bs k)),
    AV.str
     (sA bs (kA bs (kA bs k)))],
  .int .i64
   (kA bs (kA bs (kA bs k))),
  .int .i64 0])))
         T.fail))
            T.fail)
      (T.br (!decide
  (eA bs (kA bs k)=
   0))
       (T.leaf (.tup
 [.agg
   [.int .i64 0, .int .i64 0, .str ⟨⟨[]⟩⟩,
    .str ⟨⟨[]⟩⟩, .str ⟨⟨[]⟩⟩],
  .int .i64 0,
  .int .i64
   (eA bs (kA bs k))]))
           (T.br (askQ (clG 9).2
 [.agg
   [.int .i64 5, .int .i64 0,
    .str (sA bs k),
    AV.str
     (sA bs (kA bs k)),
    .str ⟨⟨[]⟩⟩]])
            (T.br (!goodA
  [.agg
    [.int .i64 5, .int .i64 0,
     .str (sA bs k),
     AV.str
      (sA bs (kA bs k)),
     .str ⟨⟨[]⟩⟩]])
             (T.leaf (.tup
 [.agg
   [.int .i64 0, .int .i64 0, .str ⟨⟨[]⟩⟩,
    .str ⟨⟨[]⟩⟩, .str ⟨⟨[]⟩⟩],
  .int .i64 0, .int .i64 11]))
         (T.leaf (.tup
 [.agg
   [.int .i64 5, .int .i64 0,
    .str (sA bs k),
    AV.str
     (sA bs (kA bs k)),
    .str ⟨⟨[]⟩⟩],
  .int .i64
   (kA bs (kA bs k)),
  .int .i64 0])))
        T.fail)))
     T.fail)
    (T.br (decide
 (eA bs k=0))
     (T.br (askQ (clGT 41).2
 [.lst 1 bs .open_,
  .int .i64 (kA bs k),
  .int .i64 256])
      (T.br (!decide
  (eA bs (kA bs k)=
   0))
       (T.leaf (.tup
 [.agg
   [.int .i64 0, .int .i64 0, .str ⟨⟨[]⟩⟩,
    .str ⟨⟨[]⟩⟩, .str ⟨⟨[]⟩⟩],
  .int .i64 0,
  .int .i64
   (eA bs (kA bs k))]))
           (T.br (askQ (clG 9).2
 [.agg
   [.int .i64 5, .int .i64 0,
    .str (sA bs k),
    .str ⟨⟨[]⟩⟩,
    AV.str
     (sA bs (kA bs k))]])
        (T.br (!goodA
  [.agg
    [.int .i64 5, .int .i64 0,
     .str (sA bs k),
     .str ⟨⟨[]⟩⟩,
     AV.str
      (sA bs (kA bs k))]])
         (T.leaf (.tup
 [.agg
   [.int .i64 0, .int .i64 0, .str ⟨⟨[]⟩⟩,
    .str ⟨⟨[]⟩⟩, .str ⟨⟨[]⟩⟩],
  .int .i64 0, .int .i64 11]))
         (T.leaf (.tup
 [.agg
   [.int .i64 5, .int .i64 0,
    .str (sA bs k),
    .str ⟨⟨[]⟩⟩,
    AV.str
     (sA bs (kA bs k))],
  .int .i64
   (kA bs (kA bs k)),
  .int .i64 0])))
        T.fail))
      T.fail)
     (T.br (!decide
  (eA bs k=0))
      (T.leaf (.tup
 [.agg
   [.int .i64 0, .int .i64 0, .str ⟨⟨[]⟩⟩,
    .str ⟨⟨[]⟩⟩, .str ⟨⟨[]⟩⟩],
  .int .i64 0,
  .int .i64 (eA bs k)]))
      (T.br (askQ (clG 9).2
 [.agg
   [.int .i64 5, .int .i64 0,
    .str (sA bs k),
    .str ⟨⟨[]⟩⟩, .str ⟨⟨[]⟩⟩]])
          (T.br (!goodA
  [.agg
    [.int .i64 5, .int .i64 0,
     .str (sA bs k),
     .str ⟨⟨[]⟩⟩, .str ⟨⟨[]⟩⟩]])
           (T.leaf (.tup
 [.agg
   [.int .i64 0, .int .i64 0, .str ⟨⟨[]⟩⟩,
    .str ⟨⟨[]⟩⟩, .str ⟨⟨[]⟩⟩],
  .int .i64 0, .int .i64 11]))
        (T.leaf (.tup
 [.agg
   [.int .i64 5, .int .i64 0,
    .str (sA bs k),
    .str ⟨⟨[]⟩⟩, .str ⟨⟨[]⟩⟩],
  .int .i64 (kA bs k),
  .int .i64 0])))
            T.fail))))
   T.fail)
  T.fail):=by kernel_rfl
theorem p14c5_0(bs:List AV)(a k:Int)(h0:(askQ (clGT 41).2
 [.lst 1 bs .open_, .int .i64 k, .int .i64 256])=true) (h1:eA bs k=0) (h2:(askQ (clGT 41).2
 [.lst 1 bs .open_,
  .int .i64 (kA bs k),
  .int .i64 256])=true) (h3:eA bs (kA bs k)=
  0) (h4:(askQ (clGT 41).2
 [.lst 1 bs .open_,
  .int .i64
   (kA bs (kA bs k)),
  .int .i64 256])=true) (h5: ¬(eA bs (kA bs (kA bs k))=
   0)):(runV (X14 true [60,71,82,87] bs a 5 k 0) (fun _=>none) Tryd.f14 (bodyOf Tryd.f14) [.lst 1 bs .open_, .int .i64 a]).run= .ok (.tup
 [.agg
   [.int .i64 0, .int .i64 0, .str ⟨⟨[]⟩⟩,
    .str ⟨⟨[]⟩⟩, .str ⟨⟨[]⟩⟩],
  .int .i64 0,
  .int .i64
   (eA bs (kA bs (kA bs k)))]):=by
 rw[p14c5];exact(bT (ask_true rfl) (bT h0 (bT (decide_eq_true h1) (bT h2 (bT (decide_eq_true h3) (bT h4 (bT (ndT h5) rfl)))))))
theorem p14c5_1(bs:List AV)(a k:Int)(h0:(askQ (clGT 41).2
 [.lst 1 bs .open_, .int .i64 k, .int .i64 256])=true) (h1:eA bs k=0) (h2:(askQ (clGT 41).2
 [.lst 1 bs .open_,
  .int .i64 (kA bs k),
  .int .i64 256])=true) (h3:eA bs (kA bs k)=
  0) (h4:(askQ (clGT 41).2
 [.lst 1 bs .open_,
  .int .i64
   (kA bs (kA bs k)),
  .int .i64 256])=true) (h5:eA bs (kA bs (kA bs k))=
   0) (h6:(askQ (clG 9).2
 [.agg
   [.int .i64 5, .int .i64 0,
    .str (sA bs k),
    AV.str
     (sA bs (kA bs k)),
    AV.str
     (sA bs (kA bs (kA bs k)))]])=true) (h7:(goodA [.agg [.int .i64 5, .int .i64 0, .str (sA bs k), .str (sA bs (kA bs k)), .str (sA bs (kA bs (kA bs k)))]])=false):(runV (X14 true [60,71,82,87] bs a 5 k 0) (fun _=>none) Tryd.f14 (bodyOf Tryd.f14) [.lst 1 bs .open_, .int .i64 a]).run= .ok (.tup
 [.agg
   [.int .i64 0, .int .i64 0, .str ⟨⟨[]⟩⟩,
    .str ⟨⟨[]⟩⟩, .str ⟨⟨[]⟩⟩],
  .int .i64 0, .int .i64 11]):=by
 rw[p14c5];exact(bT (ask_true rfl) (bT h0 (bT (decide_eq_true h1) (bT h2 (bT (decide_eq_true h3) (bT h4 (bF (ndF h5) (bT h6 (bT (by rw[h7];rfl) rfl)))))))))
theorem p14c5_2(bs:List AV)(a k:Int)(h0:(askQ (clGT 41).2
 [.lst 1 bs .open_, .int .i64 k, .int .i64 256])=true) (h1:eA bs k=0) (h2:(askQ (clGT 41).2
 [.lst 1 bs .open_,
  .int .i64 (kA bs k),
  .int .i64 256])=true) (h3:eA bs (kA bs k)=
  0) (h4:(askQ (clGT 41).2
 [.lst 1 bs .open_,
  .int .i64
   (kA bs (kA bs k)),
  .int .i64 256])=true) (h5:eA bs (kA bs (kA bs k))=
   0) (h6:(askQ (clG 9).2
 [.agg
   [.int .i64 5, .int .i64 0,
    .str (sA bs k),
    AV.str
     (sA bs (kA bs k)),
    AV.str
     (sA bs (kA bs (kA bs k)))]])=true) (h7:(goodA [.agg [.int .i64 5, .int .i64 0, .str (sA bs k), .str (sA bs (kA bs k)), .str (sA bs (kA bs (kA bs k)))]])=true):(runV (X14 true [60,71,82,87] bs a 5 k 0) (fun _=>none) Tryd.f14 (bodyOf Tryd.f14) [.lst 1 bs .open_, .int .i64 a]).run= .ok (.tup
 [.agg
   [.int .i64 5, .int .i64 0,
    .str (sA bs k),
    AV.str
     (sA bs (kA bs k)),
    AV.str
     (sA bs (kA bs (kA bs k)))],
  .int .i64
   (kA bs (kA bs (kA bs k))),
  .int .i64 0]):=by
 rw[p14c5];exact(bT (ask_true rfl) (bT h0 (bT (decide_eq_true h1) (bT h2 (bT (decide_eq_true h3) (bT h4 (bF (ndF h5) (bT h6 (bF (by rw[h7];rfl) rfl)))))))))
theorem p14c5_3(bs:List AV)(a k:Int)(h0:(askQ (clGT 41).2
 [.lst 1 bs .open_, .int .i64 k, .int .i64 256])=true) (h1:eA bs k=0) (h2:(askQ (clGT 41).2
 [.lst 1 bs .open_,
  .int .i64 (kA bs k),
  .int .i64 256])=true) (h3: ¬(eA bs (kA bs k)=
  0)):(runV (X14 true [60,71,82,87] bs a 5 k 0) (fun _=>none) Tryd.f14 (bodyOf Tryd.f14) [.lst 1 bs .open_, .int .i64 a]).run= .ok (.tup
 [.agg
   [.int .i64 0, .int .i64 0, .str ⟨⟨[]⟩⟩,
    .str ⟨⟨[]⟩⟩, .str ⟨⟨[]⟩⟩],
  .int .i64 0,
  .int .i64
   (eA bs (kA bs k))]):=by
 rw[p14c5];exact(bT (ask_true rfl) (bT h0 (bT (decide_eq_true h1) (bT h2 (bF (decide_eq_false h3) (bT (ndT h3) rfl))))))
theorem p14c5_4(bs:List AV)(a k:Int)(h0:(askQ (clGT 41).2
 [.lst 1 bs .open_, .int .i64 k, .int .i64 256])=true) (h1: ¬(eA bs k=0)):(runV (X14 true [60,71,82,87] bs a 5 k 0) (fun _=>none) Tryd.f14 (bodyOf Tryd.f14) [.lst 1 bs .open_, .int .i64 a]).run= .ok (.tup
 [.agg
   [.int .i64 0, .int .i64 0, .str ⟨⟨[]⟩⟩,
    .str ⟨⟨[]⟩⟩, .str ⟨⟨[]⟩⟩],
  .int .i64 0,
  .int .i64 (eA bs k)]):=by
 rw[p14c5];exact(bT (ask_true rfl) (bT h0 (bF (decide_eq_false h1) (bF (decide_eq_false h1) (bT (ndT h1) rfl)))))
abbrev mkC(n m:Int)(s t u:ByteArray):tyC.I:=(n,m,s,t,u)
noncomputable def finC(c:tyC.I)(k e:Int):tyC.I×Int×Int:=if e≠0 then(tyC.zero,0,e)else if goodC c=true then(c,k,0)else(tyC.zero,0,11)
noncomputable def bodyC(bs:List AV)(n k:Int):tyC.I×Int×Int:=
 if n=1 then finC (mkC 1 (getA bs k).1 ⟨#[]⟩ ⟨#[]⟩ ⟨#[]⟩) (getA bs k).2.1 (getA bs k).2.2
 else if n=2 then finC (mkC 2 0 (getT bs k 64).1 ⟨#[]⟩ ⟨#[]⟩) (getT bs k 64).2.1 (getT bs k 64).2.2
 else if n=3 then finC (mkC 3 0 (getT bs k 256).1 ⟨#[]⟩ ⟨#[]⟩) (getT bs k 256).2.1 (getT bs k 256).2.2
 else if(getT bs k 256).2.2≠0 then(tyC.zero,0,(getT bs k 256).2.2)
 else if(getT bs (getT bs k 256).2.1 256).2.2≠0 then(tyC.zero,0,(getT bs (getT bs k 256).2.1 256).2.2)
 else finC (mkC n 0 (getT bs k 256).1 (getT bs (getT bs k 256).2.1 256).1 (getT bs (getT bs (getT bs k 256).2.1 256).2.1 256).1) (getT bs (getT bs (getT bs k 256).2.1 256).2.1 256).2.1 (getT bs (getT bs (getT bs k 256).2.1 256).2.1 256).2.2
noncomputable def getC(bs:List AV)(a:Int):tyC.I×Int×Int:=
 if(getA bs a).2.2≠0 then(tyC.zero,0,(getA bs a).2.2)
 else if(getA bs a).1<1∨5<(getA bs a).1 then(tyC.zero,0,11)
 else bodyC bs (getA bs a).1 (getA bs a).2.1
def cV(p:tyC.I×Int×Int):AV:= .tup [tyC.elem p.1, .int .i64 p.2.1, .int .i64 p.2.2]
theorem okay_i64{n:Int}(h0: -9223372036854775808≤n)(h1:n≤9223372036854775807):(Ty.int .i64).okay n:=by
 show(Lit.int .i64 n).wf=true;simp only[Lit.wf,Bool.and_eq_true,decide_eq_true_eq,show IntKind.i64.min= -9223372036854775808 from rfl,show IntKind.i64.max=9223372036854775807 from rfl];exact⟨h0,h1⟩
theorem getA_i64{bs:List AV}(hb:IsB8 bs)(hl:bs.length<281474976710656)(a:Int):PL.i64 (getA bs a).1:=by
 rcases getA_res hb hl a with⟨e,h,_⟩|⟨i,n,t,_,_,h3,h,_⟩
 ·rw[h];exact⟨show(-9223372036854775808:Int)≤0 by decide,show(0:Int)≤9223372036854775807 by decide⟩
 ·rw[h];exact h3
theorem getT_size{bs:List AV}(a m:Int)(hm:0≤m):((getT bs a m).1.size:Int)≤m:=by
 unfold getT;split
 ·exact hm
 ·split
  ·exact hm
  ·split
   ·exact hm
   ·have:(bytesOf ((bs.drop (getA bs a).2.1.toNat).take (getA bs a).1.toNat)).size≤(getA bs a).1.toNat:=by
     show((((bs.drop (getA bs a).2.1.toNat).take (getA bs a).1.toNat).map _).toArray).size≤_;simp only[List.size_toArray,List.length_map,List.length_take];omega
    dsimp only
    omega
theorem okC_of{n m:Int}{s t u:ByteArray}(hn:1≤n∧n≤5)(hm:PL.i64 m)(hs:(s.size:Int)≤256)(ht:(t.size:Int)≤256)(hu:(u.size:Int)≤256):tyC.okay (mkC n m s t u):=
 ⟨okay_i64 (by omega) (by omega),okay_i64 hm.1 hm.2,show s.size≤_ by omega,show t.size≤_ by omega,show u.size≤_ by omega⟩
theorem askG{f:FuncId}{bs:List AV}{a:Int}(hb:IsB8 bs)(hl:bs.length<281474976710656):askQ (clGet f).2 [.lst 1 bs .open_, .int .i64 a]=true:=ask_true ⟨bs,a,rfl,hb,hl⟩
theorem askT{f:FuncId}{bs:List AV}{a m:Int}(hb:IsB8 bs)(hl:bs.length<281474976710656)(hm:m≤256):askQ (clGT f).2 [.lst 1 bs .open_, .int .i64 a, .int .i64 m]=true:=ask_true ⟨bs,a,m,rfl,hb,hl,by omega⟩
theorem askC{f:FuncId}{n m:Int}{s t u:ByteArray}(h:tyC.okay (mkC n m s t u)):askQ (clG f).2 [.agg [.int .i64 n, .int .i64 m, .str s, .str t, .str u]]=true:=ask_true ⟨(n,m,s,t,u),rfl,h⟩
theorem goodA_of(n m:Int)(s t u:ByteArray):goodA [.agg [.int .i64 n, .int .i64 m, .str s, .str t, .str u]]=goodC (mkC n m s t u):=goodA_eq (n,m,s,t,u)
set_option maxRecDepth 100000 in
theorem ok13(tx:Bool)(sp:List Nat){bs:List AV}{a n k e:Int}(hb:IsB8 bs)(hl:bs.length<281474976710656)(hg:getA bs a=(n,k,e)):CallOK (X13 tx sp bs a n k e).E (X13 tx sp bs a n k e).calls:=by
 intro f args h r h' hc
 have by_: ∀(cs:List Cl),(∀c,c∈cs→ ∀args,c.ok args→ ∀h,Con E0 c.f args h (c.res args) h)→(callsBy cs f args h).run= .ok (r,h')→Con E0 f args h r h':=fun cs hcs hc=>callsBy_ok (X:={E:=E0,f:=13,con:=fun _=>false,split:=fun _=>false,call:=callsBy cs}) rfl hcs f args h r h' hc
 have hc':((X13 tx sp bs a n k e).call f args h).run= .ok (r,h'):=hc;unfold X13 at hc'
 dsimp only at hc'
 split at hc'
 ·cases tx with
  |false=>cases hc'
  |true=>
   exact callsRun_ok (X:={E:=E0,f:=13,con:=fun _=>false,split:=fun _=>false,call:=tx13}) rfl (fun r hr=>by
    obtain rfl:=List.mem_singleton.1 hr
    exact⟨g0,noCalls fun _ _ _=>rfl,rfl,Tryd.func38,rfl,rfl⟩) f args h r h' hc'
 split at hc'
 ·refine by_ _ (fun c hc=>?_) hc'
  obtain rfl:=List.mem_singleton.1 hc
  exact clAt_con fun m=>by have:=conGetP a hb hl m;rw[hg]at this;exact this
 ·cases tx with
  |false=>cases hc'
  |true=>
   refine by_ _ (fun c hc=>?_) hc';simp only[List.mem_cons,List.not_mem_nil,or_false]at hc
   rcases hc with rfl|rfl|rfl
   ·exact clGetP
   ·exact clGTP
   ·exact clG67
theorem run13{bs:List AV}{a n k e:Int}(hb:IsB8 bs)(hl:bs.length<281474976710656)(hg:getA bs a=(n,k,e)):
  ∃tx sp,(runV (X13 tx sp bs a n k e) (fun _=>none) Tryd.f13 (bodyOf Tryd.f13) [.lst 1 bs .open_, .int .i64 a]).run= .ok (cV (getC bs a)):=by
 unfold getC;rw[hg]
 dsimp only
 by_cases he:e=0
 case neg=>rw [if_pos he];exact⟨_,_,p13x_0 bs a n k e he⟩
 subst he;rw[if_neg (by simp)]
 by_cases h1:n<1
 ·rw[if_pos (.inl h1)];exact⟨_,_,p13x_1 bs a n k 0 rfl h1⟩
 by_cases h5:5<n
 ·rw[if_pos (.inr h5)];exact⟨_,_,p13x_2 bs a n k 0 rfl h1 h5⟩
 rw[if_neg (by omega)]
 have g:=fun{a:Int}=>askG (f:=37) (a:=a) hb hl
 have t64:=fun{a:Int}=>askT (f:=39) (a:=a) hb hl (show(64:Int)≤256 by decide)
 have t256:=fun{a:Int}=>askT (f:=39) (a:=a) hb hl (Int.le_refl 256)
 have s256:=fun(a:Int)=>getT_size (bs:=bs) a 256 (by decide)
 have z256:((⟨#[]⟩:ByteArray).size:Int)≤256:=by decide
 have hn:n=1∨n=2∨n=3∨n=4∨n=5:=by omega
 unfold bodyC
 rcases hn with rfl|rfl|rfl|rfl|rfl
 ·refine⟨true,[62,74,79],?_⟩
  rw[if_pos rfl];unfold finC;have ok:=okC_of (n:=1) (by decide) (getA_i64 hb hl k) z256 z256 z256
  by_cases e1:(getA bs k).2.2=0
  ·rw[if_neg (by simpa using e1)]
   cases hgood:goodC (mkC 1 (getA bs k).1 ⟨#[]⟩ ⟨#[]⟩ ⟨#[]⟩)with
   |false=>exact p13c1_1 bs a k g (by rw[gE_eq];exact e1) (by rw[gN_eq];exact askC ok) (by rw[gN_eq,goodA_of];exact hgood)
   |true=>rw [if_pos rfl];have:=p13c1_2 bs a k g (by rw[gE_eq];exact e1) (by rw[gN_eq];exact askC ok) (by rw[gN_eq,goodA_of];exact hgood);rw[gN_eq,gK_eq]at this;exact this
  ·rw[if_pos e1];have:=p13c1_0 bs a k g (by rw[gE_eq];exact e1);rw[gE_eq]at this;exact this
 ·refine⟨true,[62,74,79],?_⟩
  rw[if_neg (by decide),if_pos rfl];unfold finC;have ok:=okC_of (n:=2) (m:=0) (s:=(getT bs k 64).1) (by decide) ⟨by decide,by decide⟩ (Int.le_trans (getT_size k 64 (by decide)) (by decide)) z256 z256
  by_cases e1:(getT bs k 64).2.2=0
  ·rw[if_neg (by simpa using e1)]
   cases hgood:goodC (mkC 2 0 (getT bs k 64).1 ⟨#[]⟩ ⟨#[]⟩)with
   |false=>exact p13c2_1 bs a k t64 (by rw[tE_eq];exact e1) (by rw[tS_eq];exact askC ok) (by rw[tS_eq,goodA_of];exact hgood)
   |true=>rw [if_pos rfl];have:=p13c2_2 bs a k t64 (by rw[tE_eq];exact e1) (by rw[tS_eq];exact askC ok) (by rw[tS_eq,goodA_of];exact hgood);rw[tS_eq,tK_eq]at this;exact this
  ·rw[if_pos e1];have:=p13c2_0 bs a k t64 (by rw[tE_eq];exact e1);rw[tE_eq]at this;exact this
 ·refine⟨true,[62,74,79],?_⟩
  rw[if_neg (by decide),if_neg (by decide),if_pos rfl];unfold finC;have ok:=okC_of (n:=3) (m:=0) (s:=(getT bs k 256).1) (by decide) ⟨by decide,by decide⟩ (s256 k) z256 z256
  by_cases e1:(getT bs k 256).2.2=0
  ·rw[if_neg (by simpa using e1)]
   cases hgood:goodC (mkC 3 0 (getT bs k 256).1 ⟨#[]⟩ ⟨#[]⟩)with
   |false=>exact p13c3_1 bs a k t256 (by rw[eA_eq];exact e1) (by rw[sA_eq];exact askC ok) (by rw[sA_eq,goodA_of];exact hgood)
   |true=>rw [if_pos rfl];have:=p13c3_2 bs a k t256 (by rw[eA_eq];exact e1) (by rw[sA_eq];exact askC ok) (by rw[sA_eq,goodA_of];exact hgood);rw[sA_eq,kA_eq]at this;exact this
  ·rw[if_pos e1];have:=p13c3_0 bs a k t256 (by rw[eA_eq];exact e1);rw[eA_eq]at this;exact this
 ·refine⟨true,[62,74,79],?_⟩
  rw[if_neg (by decide),if_neg (by decide),if_neg (by decide)];unfold finC;have ok:=okC_of (n:=4) (m:=0) (s:=(getT bs k 256).1) (by decide) ⟨by decide,by decide⟩ (s256 k) (s256 (getT bs k 256).2.1) (s256 (getT bs (getT bs k 256).2.1 256).2.1)
  by_cases e1:(getT bs k 256).2.2=0
  case neg=>rw [if_pos e1];have:=p13c4_4 bs a k t256 (by rw[eA_eq];exact e1);rw[eA_eq]at this;exact this
  rw[if_neg (by simpa using e1)]
  by_cases e2:(getT bs (getT bs k 256).2.1 256).2.2=0
  case neg=>rw [if_pos e2];have:=p13c4_3 bs a k t256 (by rw[eA_eq];exact e1) t256 (by rw[kA_eq,eA_eq];exact e2);rw[kA_eq,eA_eq]at this;exact this
  rw[if_neg (by simpa using e2)]
  by_cases e3:(getT bs (getT bs (getT bs k 256).2.1 256).2.1 256).2.2=0
  case neg=>rw [if_pos e3];have:=p13c4_0 bs a k t256 (by rw[eA_eq];exact e1) t256 (by rw[kA_eq,eA_eq];exact e2) t256 (by rw[kA_eq,kA_eq,eA_eq];exact e3);rw[kA_eq,kA_eq,eA_eq]at this;exact this
  rw[if_neg (by simpa using e3)]
  cases hgood:goodC (mkC 4 0 (getT bs k 256).1 (getT bs (getT bs k 256).2.1 256).1 (getT bs (getT bs (getT bs k 256).2.1 256).2.1 256).1)with
  |false=>exact p13c4_1 bs a k t256 (by rw[eA_eq];exact e1) t256 (by rw[kA_eq,eA_eq];exact e2) t256 (by rw[kA_eq,kA_eq,eA_eq];exact e3) (by simp only[sA_eq,kA_eq];exact askC ok) (by simp only[sA_eq,kA_eq];rw[goodA_of];exact hgood)
  |true=>rw [if_pos rfl];have:=p13c4_2 bs a k t256 (by rw[eA_eq];exact e1) t256 (by rw[kA_eq,eA_eq];exact e2) t256 (by rw[kA_eq,kA_eq,eA_eq];exact e3) (by simp only[sA_eq,kA_eq];exact askC ok) (by simp only[sA_eq,kA_eq];rw[goodA_of];exact hgood);simp only[sA_eq,kA_eq]at this;exact this
 ·refine⟨true,[62,74,79],?_⟩
  rw[if_neg (by decide),if_neg (by decide),if_neg (by decide)];unfold finC;have ok:=okC_of (n:=5) (m:=0) (s:=(getT bs k 256).1) (by decide) ⟨by decide,by decide⟩ (s256 k) (s256 (getT bs k 256).2.1) (s256 (getT bs (getT bs k 256).2.1 256).2.1)
  by_cases e1:(getT bs k 256).2.2=0
  case neg=>rw [if_pos e1];have:=p13c5_4 bs a k t256 (by rw[eA_eq];exact e1);rw[eA_eq]at this;exact this
  rw[if_neg (by simpa using e1)]
  by_cases e2:(getT bs (getT bs k 256).2.1 256).2.2=0
  case neg=>rw [if_pos e2];have:=p13c5_3 bs a k t256 (by rw[eA_eq];exact e1) t256 (by rw[kA_eq,eA_eq];exact e2);rw[kA_eq,eA_eq]at this;exact this
  rw[if_neg (by simpa using e2)]
  by_cases e3:(getT bs (getT bs (getT bs k 256).2.1 256).2.1 256).2.2=0
  case neg=>rw [if_pos e3];have:=p13c5_0 bs a k t256 (by rw[eA_eq];exact e1) t256 (by rw[kA_eq,eA_eq];exact e2) t256 (by rw[kA_eq,kA_eq,eA_eq];exact e3);rw[kA_eq,kA_eq,eA_eq]at this;exact this
  rw[if_neg (by simpa using e3)]
  cases hgood:goodC (mkC 5 0 (getT bs k 256).1 (getT bs (getT bs k 256).2.1 256).1 (getT bs (getT bs (getT bs k 256).2.1 256).2.1 256).1)with
  |false=>exact p13c5_1 bs a k t256 (by rw[eA_eq];exact e1) t256 (by rw[kA_eq,eA_eq];exact e2) t256 (by rw[kA_eq,kA_eq,eA_eq];exact e3) (by simp only[sA_eq,kA_eq];exact askC ok) (by simp only[sA_eq,kA_eq];rw[goodA_of];exact hgood)
  |true=>rw [if_pos rfl];have:=p13c5_2 bs a k t256 (by rw[eA_eq];exact e1) t256 (by rw[kA_eq,eA_eq];exact e2) t256 (by rw[kA_eq,kA_eq,eA_eq];exact e3) (by simp only[sA_eq,kA_eq];exact askC ok) (by simp only[sA_eq,kA_eq];rw[goodA_of];exact hgood);simp only[sA_eq,kA_eq]at this;exact this
theorem conGetC{bs:List AV}(a:Int)(hb:IsB8 bs)(hl:bs.length<281474976710656)(h:H):Con E0 13 [.lst 1 bs .open_, .int .i64 a] h (cV (getC bs a)) h:=by
 obtain⟨n,k,e,hg⟩: ∃n k e,getA bs a=(n,k,e):=⟨_,_,_,rfl⟩;obtain⟨tx,sp,hr⟩:=run13 hb hl hg
 have hn:noRef (cV (getC bs a))=true:=by
  show noRefs [tyC.elem (getC bs a).1, .int .i64 (getC bs a).2.1, .int .i64 (getC bs a).2.2]=true;simp only[noRefs,Ty.elem_noRef,noRef,Bool.and_true]
 exact Con.pureV (X:=X13 tx sp bs a n k e) g0 noG0 (ok13 tx sp hb hl hg) Tryd.func13 (c:=bodyOf Tryd.f13) rfl rfl KOK.none (noRefsB hb.isB rfl) hr (Le.refl _) hn h
set_option maxRecDepth 100000 in
theorem ok14(tx:Bool)(sp:List Nat){bs:List AV}{a n k e:Int}(hb:IsB8 bs)(hl:bs.length<281474976710656)(hg:getA bs a=(n,k,e)):CallOK (X14 tx sp bs a n k e).E (X14 tx sp bs a n k e).calls:=by
 intro f args h r h' hc
 have by_: ∀(cs:List Cl),(∀c,c∈cs→ ∀args,c.ok args→ ∀h,Con E0 c.f args h (c.res args) h)→(callsBy cs f args h).run= .ok (r,h')→Con E0 f args h r h':=fun cs hcs hc=>callsBy_ok (X:={E:=E0,f:=14,con:=fun _=>false,split:=fun _=>false,call:=callsBy cs}) rfl hcs f args h r h' hc
 have hc':((X14 tx sp bs a n k e).call f args h).run= .ok (r,h'):=hc;unfold X14 at hc'
 dsimp only at hc'
 split at hc'
 ·refine by_ _ (fun c hc=>?_) hc'
  obtain rfl:=List.mem_singleton.1 hc
  exact clAt_con fun m=>by have:=conGetR a hb hl m;rw[hg]at this;exact this
 ·cases tx with
  |false=>cases hc'
  |true=>
   refine by_ _ (fun c hc=>?_) hc';simp only[List.mem_cons,List.not_mem_nil,or_false]at hc
   rcases hc with rfl|rfl|rfl
   ·exact clGetR
   ·exact clGTR
   ·exact clG61
theorem run14{bs:List AV}{a n k e:Int}(hb:IsB8 bs)(hl:bs.length<281474976710656)(hg:getA bs a=(n,k,e)):
  ∃tx sp,(runV (X14 tx sp bs a n k e) (fun _=>none) Tryd.f14 (bodyOf Tryd.f14) [.lst 1 bs .open_, .int .i64 a]).run= .ok (cV (getC bs a)):=by
 unfold getC;rw[hg]
 dsimp only
 by_cases he:e=0
 case neg=>rw [if_pos he];exact⟨_,_,p14x_0 bs a n k e he⟩
 subst he;rw[if_neg (by simp)]
 by_cases h1:n<1
 ·rw[if_pos (.inl h1)];exact⟨_,_,p14x_1 bs a n k 0 rfl h1⟩
 by_cases h5:5<n
 ·rw[if_pos (.inr h5)];exact⟨_,_,p14x_2 bs a n k 0 rfl h1 h5⟩
 rw[if_neg (by omega)]
 have g:=fun{a:Int}=>askG (f:=40) (a:=a) hb hl
 have t64:=fun{a:Int}=>askT (f:=41) (a:=a) hb hl (show(64:Int)≤256 by decide)
 have t256:=fun{a:Int}=>askT (f:=41) (a:=a) hb hl (Int.le_refl 256)
 have s256:=fun(a:Int)=>getT_size (bs:=bs) a 256 (by decide)
 have z256:((⟨#[]⟩:ByteArray).size:Int)≤256:=by decide
 have hn:n=1∨n=2∨n=3∨n=4∨n=5:=by omega
 unfold bodyC
 rcases hn with rfl|rfl|rfl|rfl|rfl
 ·refine⟨true,[60,71,82,87],?_⟩
  rw[if_pos rfl];unfold finC;have ok:=okC_of (n:=1) (by decide) (getA_i64 hb hl k) z256 z256 z256
  by_cases e1:(getA bs k).2.2=0
  ·rw[if_neg (by simpa using e1)]
   cases hgood:goodC (mkC 1 (getA bs k).1 ⟨#[]⟩ ⟨#[]⟩ ⟨#[]⟩)with
   |false=>exact p14c1_1 bs a k g (by rw[gE_eq];exact e1) (by rw[gN_eq];exact askC ok) (by rw[gN_eq,goodA_of];exact hgood)
   |true=>rw [if_pos rfl];have:=p14c1_2 bs a k g (by rw[gE_eq];exact e1) (by rw[gN_eq];exact askC ok) (by rw[gN_eq,goodA_of];exact hgood);rw[gN_eq,gK_eq]at this;exact this
  ·rw[if_pos e1];have:=p14c1_0 bs a k g (by rw[gE_eq];exact e1);rw[gE_eq]at this;exact this
 ·refine⟨true,[60,71,82,87],?_⟩
  rw[if_neg (by decide),if_pos rfl];unfold finC;have ok:=okC_of (n:=2) (m:=0) (s:=(getT bs k 64).1) (by decide) ⟨by decide,by decide⟩ (Int.le_trans (getT_size k 64 (by decide)) (by decide)) z256 z256
  by_cases e1:(getT bs k 64).2.2=0
  ·rw[if_neg (by simpa using e1)]
   cases hgood:goodC (mkC 2 0 (getT bs k 64).1 ⟨#[]⟩ ⟨#[]⟩)with
   |false=>exact p14c2_1 bs a k t64 (by rw[tE_eq];exact e1) (by rw[tS_eq];exact askC ok) (by rw[tS_eq,goodA_of];exact hgood)
   |true=>rw [if_pos rfl];have:=p14c2_2 bs a k t64 (by rw[tE_eq];exact e1) (by rw[tS_eq];exact askC ok) (by rw[tS_eq,goodA_of];exact hgood);rw[tS_eq,tK_eq]at this;exact this
  ·rw[if_pos e1];have:=p14c2_0 bs a k t64 (by rw[tE_eq];exact e1);rw[tE_eq]at this;exact this
 ·refine⟨true,[60,71,82,87],?_⟩
  rw[if_neg (by decide),if_neg (by decide),if_pos rfl];unfold finC;have ok:=okC_of (n:=3) (m:=0) (s:=(getT bs k 256).1) (by decide) ⟨by decide,by decide⟩ (s256 k) z256 z256
  by_cases e1:(getT bs k 256).2.2=0
  ·rw[if_neg (by simpa using e1)]
   cases hgood:goodC (mkC 3 0 (getT bs k 256).1 ⟨#[]⟩ ⟨#[]⟩)with
   |false=>exact p14c3_1 bs a k t256 (by rw[eA_eq];exact e1) (by rw[sA_eq];exact askC ok) (by rw[sA_eq,goodA_of];exact hgood)
   |true=>rw [if_pos rfl];have:=p14c3_2 bs a k t256 (by rw[eA_eq];exact e1) (by rw[sA_eq];exact askC ok) (by rw[sA_eq,goodA_of];exact hgood);rw[sA_eq,kA_eq]at this;exact this
  ·rw[if_pos e1];have:=p14c3_0 bs a k t256 (by rw[eA_eq];exact e1);rw[eA_eq]at this;exact this
 ·refine⟨true,[60,71,82,87],?_⟩
  rw[if_neg (by decide),if_neg (by decide),if_neg (by decide)];unfold finC;have ok:=okC_of (n:=4) (m:=0) (s:=(getT bs k 256).1) (by decide) ⟨by decide,by decide⟩ (s256 k) (s256 (getT bs k 256).2.1) (s256 (getT bs (getT bs k 256).2.1 256).2.1)
  by_cases e1:(getT bs k 256).2.2=0
  case neg=>rw [if_pos e1];have:=p14c4_4 bs a k t256 (by rw[eA_eq];exact e1);rw[eA_eq]at this;exact this
  rw[if_neg (by simpa using e1)]
  by_cases e2:(getT bs (getT bs k 256).2.1 256).2.2=0
  case neg=>rw [if_pos e2];have:=p14c4_3 bs a k t256 (by rw[eA_eq];exact e1) t256 (by rw[kA_eq,eA_eq];exact e2);rw[kA_eq,eA_eq]at this;exact this
  rw[if_neg (by simpa using e2)]
  by_cases e3:(getT bs (getT bs (getT bs k 256).2.1 256).2.1 256).2.2=0
  case neg=>rw [if_pos e3];have:=p14c4_0 bs a k t256 (by rw[eA_eq];exact e1) t256 (by rw[kA_eq,eA_eq];exact e2) t256 (by rw[kA_eq,kA_eq,eA_eq];exact e3);rw[kA_eq,kA_eq,eA_eq]at this;exact this
  rw[if_neg (by simpa using e3)]
  cases hgood:goodC (mkC 4 0 (getT bs k 256).1 (getT bs (getT bs k 256).2.1 256).1 (getT bs (getT bs (getT bs k 256).2.1 256).2.1 256).1)with
  |false=>exact p14c4_1 bs a k t256 (by rw[eA_eq];exact e1) t256 (by rw[kA_eq,eA_eq];exact e2) t256 (by rw[kA_eq,kA_eq,eA_eq];exact e3) (by simp only[sA_eq,kA_eq];exact askC ok) (by simp only[sA_eq,kA_eq];rw[goodA_of];exact hgood)
  |true=>rw [if_pos rfl];have:=p14c4_2 bs a k t256 (by rw[eA_eq];exact e1) t256 (by rw[kA_eq,eA_eq];exact e2) t256 (by rw[kA_eq,kA_eq,eA_eq];exact e3) (by simp only[sA_eq,kA_eq];exact askC ok) (by simp only[sA_eq,kA_eq];rw[goodA_of];exact hgood);simp only[sA_eq,kA_eq]at this;exact this
 ·refine⟨true,[60,71,82,87],?_⟩
  rw[if_neg (by decide),if_neg (by decide),if_neg (by decide)];unfold finC;have ok:=okC_of (n:=5) (m:=0) (s:=(getT bs k 256).1) (by decide) ⟨by decide,by decide⟩ (s256 k) (s256 (getT bs k 256).2.1) (s256 (getT bs (getT bs k 256).2.1 256).2.1)
  by_cases e1:(getT bs k 256).2.2=0
  case neg=>rw [if_pos e1];have:=p14c5_4 bs a k t256 (by rw[eA_eq];exact e1);rw[eA_eq]at this;exact this
  rw[if_neg (by simpa using e1)]
  by_cases e2:(getT bs (getT bs k 256).2.1 256).2.2=0
  case neg=>rw [if_pos e2];have:=p14c5_3 bs a k t256 (by rw[eA_eq];exact e1) t256 (by rw[kA_eq,eA_eq];exact e2);rw[kA_eq,eA_eq]at this;exact this
  rw[if_neg (by simpa using e2)]
  by_cases e3:(getT bs (getT bs (getT bs k 256).2.1 256).2.1 256).2.2=0
  case neg=>rw [if_pos e3];have:=p14c5_0 bs a k t256 (by rw[eA_eq];exact e1) t256 (by rw[kA_eq,eA_eq];exact e2) t256 (by rw[kA_eq,kA_eq,eA_eq];exact e3);rw[kA_eq,kA_eq,eA_eq]at this;exact this
  rw[if_neg (by simpa using e3)]
  cases hgood:goodC (mkC 5 0 (getT bs k 256).1 (getT bs (getT bs k 256).2.1 256).1 (getT bs (getT bs (getT bs k 256).2.1 256).2.1 256).1)with
  |false=>exact p14c5_1 bs a k t256 (by rw[eA_eq];exact e1) t256 (by rw[kA_eq,eA_eq];exact e2) t256 (by rw[kA_eq,kA_eq,eA_eq];exact e3) (by simp only[sA_eq,kA_eq];exact askC ok) (by simp only[sA_eq,kA_eq];rw[goodA_of];exact hgood)
  |true=>rw [if_pos rfl];have:=p14c5_2 bs a k t256 (by rw[eA_eq];exact e1) t256 (by rw[kA_eq,eA_eq];exact e2) t256 (by rw[kA_eq,kA_eq,eA_eq];exact e3) (by simp only[sA_eq,kA_eq];exact askC ok) (by simp only[sA_eq,kA_eq];rw[goodA_of];exact hgood);simp only[sA_eq,kA_eq]at this;exact this
theorem conGetCR{bs:List AV}(a:Int)(hb:IsB8 bs)(hl:bs.length<281474976710656)(h:H):Con E0 14 [.lst 1 bs .open_, .int .i64 a] h (cV (getC bs a)) h:=by
 obtain⟨n,k,e,hg⟩: ∃n k e,getA bs a=(n,k,e):=⟨_,_,_,rfl⟩;obtain⟨tx,sp,hr⟩:=run14 hb hl hg
 have hn:noRef (cV (getC bs a))=true:=by
  show noRefs [tyC.elem (getC bs a).1, .int .i64 (getC bs a).2.1, .int .i64 (getC bs a).2.2]=true;simp only[noRefs,Ty.elem_noRef,noRef,Bool.and_true]
 exact Con.pureV (X:=X14 tx sp bs a n k e) g0 noG0 (ok14 tx sp hb hl hg) Tryd.func14 (c:=bodyOf Tryd.f14) rfl rfl KOK.none (noRefsB hb.isB rfl) hr (Le.refl _) hn h
end Go.Proofs.YthnajefdiljneaaDoor.AM
end
section
-- SQUEEZED
namespace Go.Proofs.YthnajefdiljneaaDoor.AM
open Go Go.Proofs Go.RowKit Go.Proofs.YthnajefdiljneaaDoor Go.Proofs.YthnajefdiljneaaDoorW.PrintWords
set_option linter.unusedVariables false
set_option linter.unusedSimpArgs false
noncomputable def X19(bs:List AV)(at_:Int)(c0 c1:Int)(c2 c3 c4:ByteArray)(k e:Int):SX:=XC 19 [19,23,26,33,42,46] [clAt 13 [.lst 1 bs .open_, .int .i64 at_] (.tup [.agg [.int .i64 c0, .int .i64 c1, .str c2, .str c3, .str c4], .int .i64 k, .int .i64 e])]
noncomputable def X20(bs:List AV)(at_:Int)(l:AV)(c0 c1:Int)(c2 c3 c4:ByteArray)(k e fd:Int):SX:=XC 20 [22,26,29,32,43,48] [clAt 14 [.lst 1 bs .open_, .int .i64 at_] (.tup [.agg [.int .i64 c0, .int .i64 c1, .str c2, .str c3, .str c4], .int .i64 k, .int .i64 e]),clAt 44 [l, .agg [.int .i64 c0, .int .i64 c1, .str c2, .str c3, .str c4]] (.int .i64 fd)]
theorem p19n(bs:List AV)(at_:Int)(c0 c1:Int)(c2 c3 c4:ByteArray)(k e:Int)(es:List (AV×AV))(n i:Int):obsK (X19 bs at_ c0 c1 c2 c3 c4 k e) (fun _=>none) 56 (sub (bodyOf Tryd.f19) [1,1,1,1,1,0,1,0,0]) [1,1,1,1,1,0,1,0,0] (frm [(0, .lst 1 bs .open_),(1, .int .i64 at_),(9, .nils),(10, .map 0),(31, .int .i64 n),(32, .int .i64 i)]) [.map es] [0,1,4,5,6,9,10,31,32]=
 (T.br (decide (i<n))
  (T.br (askQ
 (clAt 13 [.lst 1 bs .open_, .int .i64 at_]
   (.tup
    [.agg [.int .i64 c0, .int .i64 c1, .str c2, .str c3, .str c4], .int .i64 k,
     .int .i64 e])).2
 [.lst 1 bs .open_, .int .i64 at_])
   (T.br (!decide (e=0))
    (T.leaf ((X.ret,
 [.lst 1 bs .open_, .int .i64 k,AV.nils, .int .i64 0, .int .i64 e,AV.nils,AV.map 0,
  .int .i64 n, .int .i64 i],
 [Blk.map es,Blk.var [.int .i64 c0, .int .i64 c1, .str c2, .str c3, .str c4]])))
    (T.br (findB Tryd.prog E0.S 24
 (.agg [.int .i64 c0, .int .i64 c1, .str c2, .str c3, .str c4]) es)
     (T.br (findS Tryd.prog E0.S 24
  (.agg [.int .i64 c0, .int .i64 c1, .str c2, .str c3, .str c4]) es&&
 (!aggB Tryd.prog 4&&
  fits1 Tryd.prog 4
   (findV Tryd.prog E0.S 24
    (.agg [.int .i64 c0, .int .i64 c1, .str c2, .str c3, .str c4]) es)))
      (T.br ((findV Tryd.prog E0.S 24
  (.agg [.int .i64 c0, .int .i64 c1, .str c2, .str c3, .str c4]) es).toB)
       (T.leaf ((X.ret,
 [.lst 1 bs .open_, .int .i64 k,AV.nils, .int .i64 0, .int .i64 8,AV.nils,AV.map 0,
  .int .i64 n, .int .i64 i],
 [Blk.map es,Blk.var [.int .i64 c0, .int .i64 c1, .str c2, .str c3, .str c4]])))
       (T.br (putOk Tryd.prog E0.S 24
 (.agg [.int .i64 c0, .int .i64 c1, .str c2, .str c3, .str c4]) es)
        (T.br true
         (T.br false
          (T.leaf ((X.normal,
 [.lst 1 bs .open_, .int .i64 k,AV.fsl 0 [],AV.fsl 0 [],AV.fsl 0 [],AV.nils,AV.map 0,
  .int .i64 n, .int .i64 (IntKind.i64.wrap (i+1))],
 [Blk.map
   (putM Tryd.prog E0.S 24 (.agg [.int .i64 c0, .int .i64 c1, .str c2, .str c3, .str c4])
    (AV.bool true) es),
  Blk.var [.int .i64 c0, .int .i64 c1, .str c2, .str c3, .str c4],Blk.tail])))
          (T.leaf ((X.normal,
 [.lst 1 bs .open_, .int .i64 k,AV.fsl 0 [],AV.fsl 0 [],AV.fsl 0 [],
  .lst 5 [.agg [.int .i64 c0, .int .i64 c1, .str c2, .str c3, .str c4]] (Tl.own 3),
  AV.map 0, .int .i64 n, .int .i64 (IntKind.i64.wrap (i+1))],
 [Blk.map
   (putM Tryd.prog E0.S 24 (.agg [.int .i64 c0, .int .i64 c1, .str c2, .str c3, .str c4])
    (AV.bool true) es),
  Blk.var [.int .i64 c0, .int .i64 c1, .str c2, .str c3, .str c4],Blk.tail,Blk.tail]))))
                T.fail)
        T.fail))
          T.fail)
     (T.br (findS Tryd.prog E0.S 24
 (.agg [.int .i64 c0, .int .i64 c1, .str c2, .str c3, .str c4]) es)
      (T.br false
       (T.leaf ((X.ret,
 [.lst 1 bs .open_, .int .i64 k,AV.nils, .int .i64 0, .int .i64 8,AV.nils,AV.map 0,
  .int .i64 n, .int .i64 i],
 [Blk.map es,Blk.var [.int .i64 c0, .int .i64 c1, .str c2, .str c3, .str c4]])))
       (T.br (putOk Tryd.prog E0.S 24
 (.agg [.int .i64 c0, .int .i64 c1, .str c2, .str c3, .str c4]) es)
        (T.br true
         (T.br false
          (T.leaf ((X.normal,
 [.lst 1 bs .open_, .int .i64 k,AV.fsl 0 [],AV.fsl 0 [],AV.fsl 0 [],AV.nils,AV.map 0,
  .int .i64 n, .int .i64 (IntKind.i64.wrap (i+1))],
 [Blk.map
   (putM Tryd.prog E0.S 24 (.agg [.int .i64 c0, .int .i64 c1, .str c2, .str c3, .str c4])
    (AV.bool true) es),
  Blk.var [.int .i64 c0, .int .i64 c1, .str c2, .str c3, .str c4],Blk.tail])))
          (T.leaf ((X.normal,
 [.lst 1 bs .open_, .int .i64 k,AV.fsl 0 [],AV.fsl 0 [],AV.fsl 0 [],
  .lst 5 [.agg [.int .i64 c0, .int .i64 c1, .str c2, .str c3, .str c4]] (Tl.own 3),
  AV.map 0, .int .i64 n, .int .i64 (IntKind.i64.wrap (i+1))],
 [Blk.map
   (putM Tryd.prog E0.S 24 (.agg [.int .i64 c0, .int .i64 c1, .str c2, .str c3, .str c4])
    (AV.bool true) es),
  Blk.var [.int .i64 c0, .int .i64 c1, .str c2, .str c3, .str c4],Blk.tail,Blk.tail]))))
                T.fail)
        T.fail))
          T.fail)))
   T.fail)
  (T.leaf ((X.exit 1,
 [.lst 1 bs .open_, .int .i64 at_,AV.fsl 0 [],AV.fsl 0 [],AV.fsl 0 [],AV.nils,AV.map 0,
  .int .i64 n, .int .i64 i],
 [Blk.map es])))):=by kernel_rfl
theorem p19n_0(bs:List AV)(at_:Int)(c0 c1:Int)(c2 c3 c4:ByteArray)(k e:Int)(es:List (AV×AV))(n i:Int)(h0:i<n)(h1: ¬(e=0)):(obsK (X19 bs at_ c0 c1 c2 c3 c4 k e) (fun _=>none) 56 (sub (bodyOf Tryd.f19) [1,1,1,1,1,0,1,0,0]) [1,1,1,1,1,0,1,0,0] (frm [(0, .lst 1 bs .open_),(1, .int .i64 at_),(9, .nils),(10, .map 0),(31, .int .i64 n),(32, .int .i64 i)]) [.map es] [0,1,4,5,6,9,10,31,32]).run= .ok ((X.ret,
 [.lst 1 bs .open_, .int .i64 k,AV.nils, .int .i64 0, .int .i64 e,AV.nils,AV.map 0,
  .int .i64 n, .int .i64 i],
 [Blk.map es,Blk.var [.int .i64 c0, .int .i64 c1, .str c2, .str c3, .str c4]])):=by
 rw[p19n];exact(bT (decide_eq_true h0) (bT (ask_true rfl) (bT (ndT h1) rfl)))
theorem p19n_3(bs:List AV)(at_:Int)(c0 c1:Int)(c2 c3 c4:ByteArray)(k e:Int)(es:List (AV×AV))(n i:Int)(h0:i<n)(h1:e=0)(h2:(findB Tryd.prog E0.S 24
 (.agg [.int .i64 c0, .int .i64 c1, .str c2, .str c3, .str c4]) es)=false) (h3:(findS Tryd.prog E0.S 24
 (.agg [.int .i64 c0, .int .i64 c1, .str c2, .str c3, .str c4]) es)=true) (h4:(putOk Tryd.prog E0.S 24
 (.agg [.int .i64 c0, .int .i64 c1, .str c2, .str c3, .str c4]) es)=true):(obsK (X19 bs at_ c0 c1 c2 c3 c4 k e) (fun _=>none) 56 (sub (bodyOf Tryd.f19) [1,1,1,1,1,0,1,0,0]) [1,1,1,1,1,0,1,0,0] (frm [(0, .lst 1 bs .open_),(1, .int .i64 at_),(9, .nils),(10, .map 0),(31, .int .i64 n),(32, .int .i64 i)]) [.map es] [0,1,4,5,6,9,10,31,32]).run= .ok ((X.normal,
 [.lst 1 bs .open_, .int .i64 k,AV.fsl 0 [],AV.fsl 0 [],AV.fsl 0 [],
  .lst 5 [.agg [.int .i64 c0, .int .i64 c1, .str c2, .str c3, .str c4]] (Tl.own 3),
  AV.map 0, .int .i64 n, .int .i64 (IntKind.i64.wrap (i+1))],
 [Blk.map
   (putM Tryd.prog E0.S 24 (.agg [.int .i64 c0, .int .i64 c1, .str c2, .str c3, .str c4])
    (AV.bool true) es),
  Blk.var [.int .i64 c0, .int .i64 c1, .str c2, .str c3, .str c4],Blk.tail,Blk.tail])):=by
 rw[p19n];exact(bT (decide_eq_true h0) (bT (ask_true rfl) (bF (ndF h1) (bF h2 (bT h3 (bF rfl (bT h4 (bT rfl (bF rfl rfl)))))))))
theorem p19n_4(bs:List AV)(at_:Int)(c0 c1:Int)(c2 c3 c4:ByteArray)(k e:Int)(es:List (AV×AV))(n i:Int)(h0: ¬(i<n)):(obsK (X19 bs at_ c0 c1 c2 c3 c4 k e) (fun _=>none) 56 (sub (bodyOf Tryd.f19) [1,1,1,1,1,0,1,0,0]) [1,1,1,1,1,0,1,0,0] (frm [(0, .lst 1 bs .open_),(1, .int .i64 at_),(9, .nils),(10, .map 0),(31, .int .i64 n),(32, .int .i64 i)]) [.map es] [0,1,4,5,6,9,10,31,32]).run= .ok ((X.exit 1,
 [.lst 1 bs .open_, .int .i64 at_,AV.fsl 0 [],AV.fsl 0 [],AV.fsl 0 [],AV.nils,AV.map 0,
  .int .i64 n, .int .i64 i],
 [Blk.map es])):=by
 rw[p19n];exact(bF (decide_eq_false h0) rfl)
theorem p19o(bs:List AV)(at_:Int)(c0 c1:Int)(c2 c3 c4:ByteArray)(k e:Int)(es:List (AV×AV))(n i:Int)(L:List tyC.I):obsK (X19 bs at_ c0 c1 c2 c3 c4 k e) (fun _=>none) 56 (sub (bodyOf Tryd.f19) [1,1,1,1,1,0,1,0,0]) [1,1,1,1,1,0,1,0,0] (frm [(0, .lst 1 bs .open_),(1, .int .i64 at_),(9, .lst 5 (L.map tyC.elem) (.own 1)),(10, .map 0),(31, .int .i64 n),(32, .int .i64 i)]) [.map es, .tail] [0,1,4,5,6,9,10,31,32]=
 (T.br (decide (i<n))
  (T.br (askQ
 (clAt 13 [.lst 1 bs .open_, .int .i64 at_]
   (.tup
    [.agg [.int .i64 c0, .int .i64 c1, .str c2, .str c3, .str c4], .int .i64 k,
     .int .i64 e])).2
 [.lst 1 bs .open_, .int .i64 at_])
   (T.br (!decide (e=0))
    (T.leaf ((X.ret,
 [.lst 1 bs .open_, .int .i64 k,AV.nils, .int .i64 0, .int .i64 e,
  .lst 5 (List.map tyC.elem L) (Tl.own 1),AV.map 0, .int .i64 n, .int .i64 i],
 [Blk.map es,Blk.tail,Blk.var [.int .i64 c0, .int .i64 c1, .str c2, .str c3, .str c4]])))
    (T.br (findB Tryd.prog E0.S 24
 (.agg [.int .i64 c0, .int .i64 c1, .str c2, .str c3, .str c4]) es)
     (T.br (findS Tryd.prog E0.S 24
  (.agg [.int .i64 c0, .int .i64 c1, .str c2, .str c3, .str c4]) es&&
 (!aggB Tryd.prog 4&&
  fits1 Tryd.prog 4
   (findV Tryd.prog E0.S 24
    (.agg [.int .i64 c0, .int .i64 c1, .str c2, .str c3, .str c4]) es)))
      (T.br ((findV Tryd.prog E0.S 24
  (.agg [.int .i64 c0, .int .i64 c1, .str c2, .str c3, .str c4]) es).toB)
       (T.leaf ((X.ret,
 [.lst 1 bs .open_, .int .i64 k,AV.nils, .int .i64 0, .int .i64 8,
  .lst 5 (List.map tyC.elem L) (Tl.own 1),AV.map 0, .int .i64 n, .int .i64 i],
 [Blk.map es,Blk.tail,Blk.var [.int .i64 c0, .int .i64 c1, .str c2, .str c3, .str c4]])))
       (T.br (putOk Tryd.prog E0.S 24
 (.agg [.int .i64 c0, .int .i64 c1, .str c2, .str c3, .str c4]) es)
        (T.br (decide (((List.map tyC.elem L).length+1)*64≤200000000000000)&&
  decide ((List.map tyC.elem L).length+1≤200000000000000)&&
 [AV.agg [.int .i64 c0, .int .i64 c1, .str c2, .str c3, .str c4]].all fun y=>
  y.cells.all AV.leaf)
         (T.leaf ((X.normal,
 [.lst 1 bs .open_, .int .i64 k,AV.fsl 0 [],AV.fsl 0 [],AV.fsl 0 [],
  .lst 5
   (List.map tyC.elem L++ [.agg [.int .i64 c0, .int .i64 c1, .str c2, .str c3, .str c4]])
   (Tl.own 4),
  AV.map 0, .int .i64 n, .int .i64 (IntKind.i64.wrap (i+1))],
 [Blk.map
   (putM Tryd.prog E0.S 24 (.agg [.int .i64 c0, .int .i64 c1, .str c2, .str c3, .str c4])
    (AV.bool true) es),
  Blk.dead,Blk.var [.int .i64 c0, .int .i64 c1, .str c2, .str c3, .str c4],Blk.tail,
  Blk.tail])))
         T.fail)
        T.fail))
      T.fail)
     (T.br (findS Tryd.prog E0.S 24
 (.agg [.int .i64 c0, .int .i64 c1, .str c2, .str c3, .str c4]) es)
      (T.br false
       (T.leaf ((X.ret,
 [.lst 1 bs .open_, .int .i64 k,AV.nils, .int .i64 0, .int .i64 8,
  .lst 5 (List.map tyC.elem L) (Tl.own 1),AV.map 0, .int .i64 n, .int .i64 i],
 [Blk.map es,Blk.tail,Blk.var [.int .i64 c0, .int .i64 c1, .str c2, .str c3, .str c4]])))
       (T.br (putOk Tryd.prog E0.S 24
 (.agg [.int .i64 c0, .int .i64 c1, .str c2, .str c3, .str c4]) es)
        (T.br (decide (((List.map tyC.elem L).length+1)*64≤200000000000000)&&
  decide ((List.map tyC.elem L).length+1≤200000000000000)&&
 [AV.agg [.int .i64 c0, .int .i64 c1, .str c2, .str c3, .str c4]].all fun y=>
  y.cells.all AV.leaf)
         (T.leaf ((X.normal,
 [.lst 1 bs .open_, .int .i64 k,AV.fsl 0 [],AV.fsl 0 [],AV.fsl 0 [],
  .lst 5
   (List.map tyC.elem L++ [.agg [.int .i64 c0, .int .i64 c1, .str c2, .str c3, .str c4]])
   (Tl.own 4),
  AV.map 0, .int .i64 n, .int .i64 (IntKind.i64.wrap (i+1))],
 [Blk.map
   (putM Tryd.prog E0.S 24 (.agg [.int .i64 c0, .int .i64 c1, .str c2, .str c3, .str c4])
    (AV.bool true) es),
  Blk.dead,Blk.var [.int .i64 c0, .int .i64 c1, .str c2, .str c3, .str c4],Blk.tail,
  Blk.tail])))
         T.fail)
        T.fail))
      T.fail)))
   T.fail)
  (T.leaf ((X.exit 1,
 [.lst 1 bs .open_, .int .i64 at_,AV.fsl 0 [],AV.fsl 0 [],AV.fsl 0 [],
  .lst 5 (List.map tyC.elem L) (Tl.own 1),AV.map 0, .int .i64 n, .int .i64 i],
 [Blk.map es,Blk.tail])))):=by kernel_rfl
theorem p19o_0(bs:List AV)(at_:Int)(c0 c1:Int)(c2 c3 c4:ByteArray)(k e:Int)(es:List (AV×AV))(n i:Int)(L:List tyC.I)(h0:i<n)(h1: ¬(e=0)):(obsK (X19 bs at_ c0 c1 c2 c3 c4 k e) (fun _=>none) 56 (sub (bodyOf Tryd.f19) [1,1,1,1,1,0,1,0,0]) [1,1,1,1,1,0,1,0,0] (frm [(0, .lst 1 bs .open_),(1, .int .i64 at_),(9, .lst 5 (L.map tyC.elem) (.own 1)),(10, .map 0),(31, .int .i64 n),(32, .int .i64 i)]) [.map es, .tail] [0,1,4,5,6,9,10,31,32]).run= .ok ((X.ret,
 [.lst 1 bs .open_, .int .i64 k,AV.nils, .int .i64 0, .int .i64 e,
  .lst 5 (List.map tyC.elem L) (Tl.own 1),AV.map 0, .int .i64 n, .int .i64 i],
 [Blk.map es,Blk.tail,Blk.var [.int .i64 c0, .int .i64 c1, .str c2, .str c3, .str c4]])):=by
 rw[p19o];exact(bT (decide_eq_true h0) (bT (ask_true rfl) (bT (ndT h1) rfl)))
theorem p19o_1(bs:List AV)(at_:Int)(c0 c1:Int)(c2 c3 c4:ByteArray)(k e:Int)(es:List (AV×AV))(n i:Int)(L:List tyC.I)(h0:i<n)(h1:e=0)(h2:(findB Tryd.prog E0.S 24
 (.agg [.int .i64 c0, .int .i64 c1, .str c2, .str c3, .str c4]) es)=true) (h3:(findS Tryd.prog E0.S 24
  (.agg [.int .i64 c0, .int .i64 c1, .str c2, .str c3, .str c4]) es&&
 (!aggB Tryd.prog 4&&
  fits1 Tryd.prog 4
   (findV Tryd.prog E0.S 24
    (.agg [.int .i64 c0, .int .i64 c1, .str c2, .str c3, .str c4]) es)))=true) (h4:((findV Tryd.prog E0.S 24
  (.agg [.int .i64 c0, .int .i64 c1, .str c2, .str c3, .str c4]) es).toB)=true):(obsK (X19 bs at_ c0 c1 c2 c3 c4 k e) (fun _=>none) 56 (sub (bodyOf Tryd.f19) [1,1,1,1,1,0,1,0,0]) [1,1,1,1,1,0,1,0,0] (frm [(0, .lst 1 bs .open_),(1, .int .i64 at_),(9, .lst 5 (L.map tyC.elem) (.own 1)),(10, .map 0),(31, .int .i64 n),(32, .int .i64 i)]) [.map es, .tail] [0,1,4,5,6,9,10,31,32]).run= .ok ((X.ret,
 [.lst 1 bs .open_, .int .i64 k,AV.nils, .int .i64 0, .int .i64 8,
  .lst 5 (List.map tyC.elem L) (Tl.own 1),AV.map 0, .int .i64 n, .int .i64 i],
 [Blk.map es,Blk.tail,Blk.var [.int .i64 c0, .int .i64 c1, .str c2, .str c3, .str c4]])):=by
 rw[p19o];exact(bT (decide_eq_true h0) (bT (ask_true rfl) (bF (ndF h1) (bT h2 (bT h3 (bT h4 rfl))))))
theorem p19o_3(bs:List AV)(at_:Int)(c0 c1:Int)(c2 c3 c4:ByteArray)(k e:Int)(es:List (AV×AV))(n i:Int)(L:List tyC.I)(h0:i<n)(h1:e=0)(h2:(findB Tryd.prog E0.S 24
 (.agg [.int .i64 c0, .int .i64 c1, .str c2, .str c3, .str c4]) es)=false) (h3:(findS Tryd.prog E0.S 24
 (.agg [.int .i64 c0, .int .i64 c1, .str c2, .str c3, .str c4]) es)=true) (h4:(putOk Tryd.prog E0.S 24
 (.agg [.int .i64 c0, .int .i64 c1, .str c2, .str c3, .str c4]) es)=true) (h5:(decide (((List.map tyC.elem L).length+1)*64≤200000000000000)&&
  decide ((List.map tyC.elem L).length+1≤200000000000000)&&
 [AV.agg [.int .i64 c0, .int .i64 c1, .str c2, .str c3, .str c4]].all fun y=>
  y.cells.all AV.leaf)=true):(obsK (X19 bs at_ c0 c1 c2 c3 c4 k e) (fun _=>none) 56 (sub (bodyOf Tryd.f19) [1,1,1,1,1,0,1,0,0]) [1,1,1,1,1,0,1,0,0] (frm [(0, .lst 1 bs .open_),(1, .int .i64 at_),(9, .lst 5 (L.map tyC.elem) (.own 1)),(10, .map 0),(31, .int .i64 n),(32, .int .i64 i)]) [.map es, .tail] [0,1,4,5,6,9,10,31,32]).run= .ok ((X.normal,
 [.lst 1 bs .open_, .int .i64 k,AV.fsl 0 [],AV.fsl 0 [],AV.fsl 0 [],
  .lst 5
   (List.map tyC.elem L++ [.agg [.int .i64 c0, .int .i64 c1, .str c2, .str c3, .str c4]])
   (Tl.own 4),
  AV.map 0, .int .i64 n, .int .i64 (IntKind.i64.wrap (i+1))],
 [Blk.map
   (putM Tryd.prog E0.S 24 (.agg [.int .i64 c0, .int .i64 c1, .str c2, .str c3, .str c4])
    (AV.bool true) es),
  Blk.dead,Blk.var [.int .i64 c0, .int .i64 c1, .str c2, .str c3, .str c4],Blk.tail,
  Blk.tail])):=by
 rw[p19o];exact(bT (decide_eq_true h0) (bT (ask_true rfl) (bF (ndF h1) (bF h2 (bT h3 (bF rfl (bT h4 (bT h5 rfl))))))))
theorem p19o_4(bs:List AV)(at_:Int)(c0 c1:Int)(c2 c3 c4:ByteArray)(k e:Int)(es:List (AV×AV))(n i:Int)(L:List tyC.I)(h0: ¬(i<n)):(obsK (X19 bs at_ c0 c1 c2 c3 c4 k e) (fun _=>none) 56 (sub (bodyOf Tryd.f19) [1,1,1,1,1,0,1,0,0]) [1,1,1,1,1,0,1,0,0] (frm [(0, .lst 1 bs .open_),(1, .int .i64 at_),(9, .lst 5 (L.map tyC.elem) (.own 1)),(10, .map 0),(31, .int .i64 n),(32, .int .i64 i)]) [.map es, .tail] [0,1,4,5,6,9,10,31,32]).run= .ok ((X.exit 1,
 [.lst 1 bs .open_, .int .i64 at_,AV.fsl 0 [],AV.fsl 0 [],AV.fsl 0 [],
  .lst 5 (List.map tyC.elem L) (Tl.own 1),AV.map 0, .int .i64 n, .int .i64 i],
 [Blk.map es,Blk.tail])):=by
 rw[p19o];exact(bF (decide_eq_false h0) rfl)
theorem p20n(bs:List AV)(at_:Int)(c0 c1:Int)(c2 c3 c4:ByteArray)(k e fd:Int)(n i:Int):obsK (X20 bs at_ .nils c0 c1 c2 c3 c4 k e fd) (fun _=>none) 56 (sub (bodyOf Tryd.f20) [1,1,1,1,1,0,1,0,0]) [1,1,1,1,1,0,1,0,0] (frm [(0, .lst 1 bs .open_),(1, .int .i64 at_),(7, .int .i64 n),(9, .nils),(10, .int .i64 i)]) [] [0,1,4,5,6,7,9,10]=
 (T.br (decide (i<n))
  (T.br (askQ
 (clAt 14 [.lst 1 bs .open_, .int .i64 at_]
   (.tup
    [.agg [.int .i64 c0, .int .i64 c1, .str c2, .str c3, .str c4], .int .i64 k,
     .int .i64 e])).2
 [.lst 1 bs .open_, .int .i64 at_])
   (T.br (!decide (e=0))
    (T.leaf ((X.ret,
 [.lst 1 bs .open_, .int .i64 at_,AV.nils, .int .i64 0, .int .i64 e,
  .int .i64 n,AV.nils, .int .i64 i],
 [Blk.var [.int .i64 c0, .int .i64 c1, .str c2, .str c3, .str c4]])))
    (T.br (askQ
 (clAt 44 [AV.nils, .agg [.int .i64 c0, .int .i64 c1, .str c2, .str c3, .str c4]]
   (.int .i64 fd)).2
 [AV.nils, .agg [.int .i64 c0, .int .i64 c1, .str c2, .str c3, .str c4]])
     (T.br (decide (0≤fd))
      (T.leaf ((X.ret,
 [.lst 1 bs .open_, .int .i64 at_,AV.nils, .int .i64 0, .int .i64 8,
  .int .i64 n,AV.nils, .int .i64 i],
 [Blk.var [.int .i64 c0, .int .i64 c1, .str c2, .str c3, .str c4]])))
           (T.br true
            (T.br false
             (T.leaf ((X.normal,
 [.lst 1 bs .open_, .int .i64 k,AV.fsl 0 [],AV.fsl 0 [],AV.fsl 0 [], .int .i64 n,AV.nils,
  .int .i64 (IntKind.i64.wrap (i+1))],
 [Blk.var [.int .i64 c0, .int .i64 c1, .str c2, .str c3, .str c4],Blk.tail])))
        (T.leaf ((X.normal,
 [.lst 1 bs .open_, .int .i64 k,AV.fsl 0 [],AV.fsl 0 [],AV.fsl 0 [], .int .i64 n,
  .lst 5 [.agg [.int .i64 c0, .int .i64 c1, .str c2, .str c3, .str c4]] (Tl.own 2),
  .int .i64 (IntKind.i64.wrap (i+1))],
 [Blk.var [.int .i64 c0, .int .i64 c1, .str c2, .str c3, .str c4],Blk.tail,Blk.tail]))))
       T.fail))
     T.fail))
   T.fail)
  (T.leaf ((X.exit 0,
 [.lst 1 bs .open_, .int .i64 at_,AV.fsl 0 [],AV.fsl 0 [],AV.fsl 0 [], .int .i64 n,AV.nils,
  .int .i64 i],
 [])))):=by kernel_rfl
theorem p20n_0(bs:List AV)(at_:Int)(c0 c1:Int)(c2 c3 c4:ByteArray)(k e fd:Int)(n i:Int)(h0:i<n)(h1: ¬(e=0)):(obsK (X20 bs at_ .nils c0 c1 c2 c3 c4 k e fd) (fun _=>none) 56 (sub (bodyOf Tryd.f20) [1,1,1,1,1,0,1,0,0]) [1,1,1,1,1,0,1,0,0] (frm [(0, .lst 1 bs .open_),(1, .int .i64 at_),(7, .int .i64 n),(9, .nils),(10, .int .i64 i)]) [] [0,1,4,5,6,7,9,10]).run= .ok ((X.ret,
 [.lst 1 bs .open_, .int .i64 at_,AV.nils, .int .i64 0, .int .i64 e,
  .int .i64 n,AV.nils, .int .i64 i],
 [Blk.var [.int .i64 c0, .int .i64 c1, .str c2, .str c3, .str c4]])):=by
 rw[p20n];exact(bT (decide_eq_true h0) (bT (ask_true rfl) (bT (ndT h1) rfl)))
theorem p20n_2(bs:List AV)(at_:Int)(c0 c1:Int)(c2 c3 c4:ByteArray)(k e fd:Int)(n i:Int)(h0:i<n)(h1:e=0)(h2: ¬(0≤fd)):(obsK (X20 bs at_ .nils c0 c1 c2 c3 c4 k e fd) (fun _=>none) 56 (sub (bodyOf Tryd.f20) [1,1,1,1,1,0,1,0,0]) [1,1,1,1,1,0,1,0,0] (frm [(0, .lst 1 bs .open_),(1, .int .i64 at_),(7, .int .i64 n),(9, .nils),(10, .int .i64 i)]) [] [0,1,4,5,6,7,9,10]).run= .ok ((X.normal,
 [.lst 1 bs .open_, .int .i64 k,AV.fsl 0 [],AV.fsl 0 [],AV.fsl 0 [], .int .i64 n,
  .lst 5 [.agg [.int .i64 c0, .int .i64 c1, .str c2, .str c3, .str c4]] (Tl.own 2),
  .int .i64 (IntKind.i64.wrap (i+1))],
 [Blk.var [.int .i64 c0, .int .i64 c1, .str c2, .str c3, .str c4],Blk.tail,Blk.tail])):=by
 rw[p20n];exact(bT (decide_eq_true h0) (bT (ask_true rfl) (bF (ndF h1) (bT (ask_true rfl) (bF (decide_eq_false h2) (bT rfl (bF rfl rfl)))))))
theorem p20n_3(bs:List AV)(at_:Int)(c0 c1:Int)(c2 c3 c4:ByteArray)(k e fd:Int)(n i:Int)(h0: ¬(i<n)):(obsK (X20 bs at_ .nils c0 c1 c2 c3 c4 k e fd) (fun _=>none) 56 (sub (bodyOf Tryd.f20) [1,1,1,1,1,0,1,0,0]) [1,1,1,1,1,0,1,0,0] (frm [(0, .lst 1 bs .open_),(1, .int .i64 at_),(7, .int .i64 n),(9, .nils),(10, .int .i64 i)]) [] [0,1,4,5,6,7,9,10]).run= .ok ((X.exit 0,
 [.lst 1 bs .open_, .int .i64 at_,AV.fsl 0 [],AV.fsl 0 [],AV.fsl 0 [], .int .i64 n,AV.nils,
  .int .i64 i],
 [])):=by
 rw[p20n];exact(bF (decide_eq_false h0) rfl)
theorem p20o(bs:List AV)(at_:Int)(c0 c1:Int)(c2 c3 c4:ByteArray)(k e fd:Int)(n i:Int)(L:List tyC.I):obsK (X20 bs at_ (.lst 5 (L.map tyC.elem) .open_) c0 c1 c2 c3 c4 k e fd) (fun _=>none) 56 (sub (bodyOf Tryd.f20) [1,1,1,1,1,0,1,0,0]) [1,1,1,1,1,0,1,0,0] (frm [(0, .lst 1 bs .open_),(1, .int .i64 at_),(7, .int .i64 n),(9, .lst 5 (L.map tyC.elem) (.own 0)),(10, .int .i64 i)]) [.tail] [0,1,4,5,6,7,9,10]=
 (T.br (decide (i<n))
  (T.br (askQ
 (clAt 14 [.lst 1 bs .open_, .int .i64 at_]
   (.tup
    [.agg [.int .i64 c0, .int .i64 c1, .str c2, .str c3, .str c4], .int .i64 k,
     .int .i64 e])).2
 [.lst 1 bs .open_, .int .i64 at_])
   (T.br (!decide (e=0))
    (T.leaf ((X.ret,
 [.lst 1 bs .open_, .int .i64 at_,AV.nils, .int .i64 0, .int .i64 e,
  .int .i64 n, .lst 5 (List.map tyC.elem L) (Tl.own 0), .int .i64 i],
 [Blk.tail,Blk.var [.int .i64 c0, .int .i64 c1, .str c2, .str c3, .str c4]])))
    (T.br (askQ
 (clAt 44
   [.lst 5 (List.map tyC.elem L) .open_,
    .agg [.int .i64 c0, .int .i64 c1, .str c2, .str c3, .str c4]]
   (.int .i64 fd)).2
 [.lst 5 (List.map tyC.elem L) .open_,
  .agg [.int .i64 c0, .int .i64 c1, .str c2, .str c3, .str c4]])
        (T.br (decide (0≤fd))
         (T.leaf ((X.ret,
 [.lst 1 bs .open_, .int .i64 at_,AV.nils, .int .i64 0, .int .i64 8,
  .int .i64 n, .lst 5 (List.map tyC.elem L) (Tl.own 0), .int .i64 i],
 [Blk.tail,Blk.var [.int .i64 c0, .int .i64 c1, .str c2, .str c3, .str c4]])))
      (T.br (decide (((List.map tyC.elem L).length+1)*64≤200000000000000)&&
  decide ((List.map tyC.elem L).length+1≤200000000000000)&&
 [AV.agg [.int .i64 c0, .int .i64 c1, .str c2, .str c3, .str c4]].all fun y=>
  y.cells.all AV.leaf)
       (T.leaf ((X.normal,
 [.lst 1 bs .open_, .int .i64 k,AV.fsl 0 [],AV.fsl 0 [],AV.fsl 0 [], .int .i64 n,
  .lst 5
   (List.map tyC.elem L++ [.agg [.int .i64 c0, .int .i64 c1, .str c2, .str c3, .str c4]])
   (Tl.own 3),
  .int .i64 (IntKind.i64.wrap (i+1))],
 [Blk.dead,Blk.var [.int .i64 c0, .int .i64 c1, .str c2, .str c3, .str c4],Blk.tail,
  Blk.tail])))
       T.fail))
     T.fail))
   T.fail)
  (T.leaf ((X.exit 0,
 [.lst 1 bs .open_, .int .i64 at_,AV.fsl 0 [],AV.fsl 0 [],AV.fsl 0 [], .int .i64 n,
  .lst 5 (List.map tyC.elem L) (Tl.own 0), .int .i64 i],
 [Blk.tail])))):=by kernel_rfl
theorem p20o_0(bs:List AV)(at_:Int)(c0 c1:Int)(c2 c3 c4:ByteArray)(k e fd:Int)(n i:Int)(L:List tyC.I)(h0:i<n)(h1: ¬(e=0)):(obsK (X20 bs at_ (.lst 5 (L.map tyC.elem) .open_) c0 c1 c2 c3 c4 k e fd) (fun _=>none) 56 (sub (bodyOf Tryd.f20) [1,1,1,1,1,0,1,0,0]) [1,1,1,1,1,0,1,0,0] (frm [(0, .lst 1 bs .open_),(1, .int .i64 at_),(7, .int .i64 n),(9, .lst 5 (L.map tyC.elem) (.own 0)),(10, .int .i64 i)]) [.tail] [0,1,4,5,6,7,9,10]).run= .ok ((X.ret,
 [.lst 1 bs .open_, .int .i64 at_,AV.nils, .int .i64 0, .int .i64 e,
  .int .i64 n, .lst 5 (List.map tyC.elem L) (Tl.own 0), .int .i64 i],
 [Blk.tail,Blk.var [.int .i64 c0, .int .i64 c1, .str c2, .str c3, .str c4]])):=by
 rw[p20o];exact(bT (decide_eq_true h0) (bT (ask_true rfl) (bT (ndT h1) rfl)))
theorem p20o_1(bs:List AV)(at_:Int)(c0 c1:Int)(c2 c3 c4:ByteArray)(k e fd:Int)(n i:Int)(L:List tyC.I)(h0:i<n)(h1:e=0)(h2:0≤fd):(obsK (X20 bs at_ (.lst 5 (L.map tyC.elem) .open_) c0 c1 c2 c3 c4 k e fd) (fun _=>none) 56 (sub (bodyOf Tryd.f20) [1,1,1,1,1,0,1,0,0]) [1,1,1,1,1,0,1,0,0] (frm [(0, .lst 1 bs .open_),(1, .int .i64 at_),(7, .int .i64 n),(9, .lst 5 (L.map tyC.elem) (.own 0)),(10, .int .i64 i)]) [.tail] [0,1,4,5,6,7,9,10]).run= .ok ((X.ret,
 [.lst 1 bs .open_, .int .i64 at_,AV.nils, .int .i64 0, .int .i64 8,
  .int .i64 n, .lst 5 (List.map tyC.elem L) (Tl.own 0), .int .i64 i],
 [Blk.tail,Blk.var [.int .i64 c0, .int .i64 c1, .str c2, .str c3, .str c4]])):=by
 rw[p20o];exact(bT (decide_eq_true h0) (bT (ask_true rfl) (bF (ndF h1) (bT (ask_true rfl) (bT (decide_eq_true h2) rfl)))))
theorem p20o_2(bs:List AV)(at_:Int)(c0 c1:Int)(c2 c3 c4:ByteArray)(k e fd:Int)(n i:Int)(L:List tyC.I)(h0:i<n)(h1:e=0)(h2: ¬(0≤fd))(h3:(decide (((List.map tyC.elem L).length+1)*64≤200000000000000)&&
  decide ((List.map tyC.elem L).length+1≤200000000000000)&&
 [AV.agg [.int .i64 c0, .int .i64 c1, .str c2, .str c3, .str c4]].all fun y=>
  y.cells.all AV.leaf)=true):(obsK (X20 bs at_ (.lst 5 (L.map tyC.elem) .open_) c0 c1 c2 c3 c4 k e fd) (fun _=>none) 56 (sub (bodyOf Tryd.f20) [1,1,1,1,1,0,1,0,0]) [1,1,1,1,1,0,1,0,0] (frm [(0, .lst 1 bs .open_),(1, .int .i64 at_),(7, .int .i64 n),(9, .lst 5 (L.map tyC.elem) (.own 0)),(10, .int .i64 i)]) [.tail] [0,1,4,5,6,7,9,10]).run= .ok ((X.normal,
 [.lst 1 bs .open_, .int .i64 k,AV.fsl 0 [],AV.fsl 0 [],AV.fsl 0 [], .int .i64 n,
  .lst 5
   (List.map tyC.elem L++ [.agg [.int .i64 c0, .int .i64 c1, .str c2, .str c3, .str c4]])
   (Tl.own 3),
  .int .i64 (IntKind.i64.wrap (i+1))],
 [Blk.dead,Blk.var [.int .i64 c0, .int .i64 c1, .str c2, .str c3, .str c4],Blk.tail,
  Blk.tail])):=by
 rw[p20o];exact(bT (decide_eq_true h0) (bT (ask_true rfl) (bF (ndF h1) (bT (ask_true rfl) (bF (decide_eq_false h2) (bT h3 rfl))))))
theorem p20o_3(bs:List AV)(at_:Int)(c0 c1:Int)(c2 c3 c4:ByteArray)(k e fd:Int)(n i:Int)(L:List tyC.I)(h0: ¬(i<n)):(obsK (X20 bs at_ (.lst 5 (L.map tyC.elem) .open_) c0 c1 c2 c3 c4 k e fd) (fun _=>none) 56 (sub (bodyOf Tryd.f20) [1,1,1,1,1,0,1,0,0]) [1,1,1,1,1,0,1,0,0] (frm [(0, .lst 1 bs .open_),(1, .int .i64 at_),(7, .int .i64 n),(9, .lst 5 (L.map tyC.elem) (.own 0)),(10, .int .i64 i)]) [.tail] [0,1,4,5,6,7,9,10]).run= .ok ((X.exit 0,
 [.lst 1 bs .open_, .int .i64 at_,AV.fsl 0 [],AV.fsl 0 [],AV.fsl 0 [], .int .i64 n,
  .lst 5 (List.map tyC.elem L) (Tl.own 0), .int .i64 i],
 [Blk.tail])):=by
 rw[p20o];exact(bF (decide_eq_false h0) rfl)
noncomputable def readAll(bs:List AV):Nat→Int→List tyC.I→List tyC.I×Int×Int
 |0,a,L=>(L,a,0)
 |d+1,a,L=>if(getC bs a).2.2≠0 then([],0,(getC bs a).2.2)else if(getC bs a).1∈L then([],0,8)else readAll bs d (getC bs a).2.1 (L++ [(getC bs a).1])
noncomputable def getL(bs:List AV)(a:Int):List tyC.I×Int×Int:=
 if(getA bs a).2.2≠0 then([],0,(getA bs a).2.2)
 else if(getA bs a).1<0∨256<(getA bs a).1 then([],0,6)
 else readAll bs (getA bs a).1.toNat (getA bs a).2.1 []
def own5(L:List tyC.I)(t:Nat):AV:=match L with
 | []=> .nils
 |_::_=> .lst 5 (L.map tyC.elem) (.own t)
theorem own5_snoc(L:List tyC.I)(c:tyC.I)(t:Nat):own5 (L++ [c]) t= .lst 5 (L.map tyC.elem++ [tyC.elem c]) (.own t):=by
 have:(L++ [c]).map tyC.elem=L.map tyC.elem++ [tyC.elem c]:=by rw[List.map_append];rfl
 rw[←this]
 cases L<;>rfl
theorem noRefsC(L:List tyC.I):noRefs (L.map tyC.elem)=true:=noRefs_mem _ fun y hy=>by
 obtain⟨x,_,rfl⟩:=List.mem_map.1 hy;exact Ty.elem_noRef _ _
theorem noRefsC1(L:List tyC.I)(c:tyC.I):noRefs (L.map tyC.elem++ [tyC.elem c])=true:=noRefs_append _ _ (noRefsC L) (by simp only[noRefs,Ty.elem_noRef,Bool.and_true])
theorem setC_noRef(L:List tyC.I): ∀e,e∈setBy tyC.elem L→noRef e.1=true∧noRef e.2=true:=fun e he=>by
 obtain⟨x,_,rfl⟩:=List.mem_map.1 he;exact⟨Ty.elem_noRef tyC x,rfl⟩
def hm19(L:List tyC.I):H:=match L with
 | []=> [.map []]
 |_::_=> [.map (setBy tyC.elem L), .tail]
theorem hm19_snoc(L:List tyC.I)(c:tyC.I):hm19 (L++ [c])= [.map (setBy tyC.elem (L++ [c])), .tail]:=by cases L<;>rfl
def hm20(L:List tyC.I):H:=match L with
 | []=> []
 |_::_=> [.tail]
theorem hm20_snoc(L:List tyC.I)(c:tyC.I):hm20 (L++ [c])= [.tail]:=by cases L<;>rfl
def st19(bs:List AV)(at_ n:Int)(L:List tyC.I)(i:Int):List (Nat×AV):= [(0, .lst 1 bs .open_),(1, .int .i64 at_),(9,own5 L 1),(10, .map 0),(31, .int .i64 n),(32, .int .i64 i)]
def st20(bs:List AV)(at_ n:Int)(L:List tyC.I)(i:Int):List (Nat×AV):= [(0, .lst 1 bs .open_),(1, .int .i64 at_),(7, .int .i64 n),(9,own5 L 0),(10, .int .i64 i)]
theorem room5{L:List tyC.I}(h:L.length<1000)(x:AV)(hx:x.cells.all AV.leaf=true):(decide (((L.map tyC.elem).length+1)*64≤200000000000000)&&decide ((L.map tyC.elem).length+1≤200000000000000)&& [x].all fun y=>y.cells.all AV.leaf)=true:=by
 simp only[List.length_map,List.all_cons,List.all_nil,hx,Bool.and_true,Bool.and_eq_true,decide_eq_true_eq];omega
theorem wrap_len(L:List tyC.I)(c:tyC.I)(h:L.length<1000):IntKind.i64.wrap ((L.length:Int)+1)=((L++ [c]).length:Int):=by
 rw[wrap_next (by omega),List.length_append,List.length_singleton]
theorem findC_neg{L:List tyC.I}{c:tyC.I}:c∉L→ ¬(0:Int)≤findC L c:=fun h=>by
 unfold findC
 cases hf:firstI (fun j=>L.getD j tyC.zero=c) L.length with
 |none=>decide
 |some i=>
  obtain⟨h1,h2,_⟩:=firstI_some hf
  refine absurd ?_ h
  rw[←h2,List.getD_eq_getElem?_getD,List.getElem?_eq_getElem h1];exact List.getElem_mem h1
theorem findC_pos{L:List tyC.I}{c:tyC.I}:c∈L→(0:Int)≤findC L c:=fun h=>by
 unfold findC
 cases hf:firstI (fun j=>L.getD j tyC.zero=c) L.length with
 |some i=>exact Int.natCast_nonneg i
 |none=>
  obtain⟨i,hi,rfl⟩:=List.getElem_of_mem h
  refine absurd ?_ (firstI_none hf i hi)
  rw[List.getD_eq_getElem?_getD,List.getElem?_eq_getElem hi];rfl
noncomputable abbrev bd19:Code:=sub (bodyOf Tryd.f19) [1,1,1,1,1,0,1,0,0]
noncomputable abbrev bd20:Code:=sub (bodyOf Tryd.f20) [1,1,1,1,1,0,1,0,0]
theorem noRef1{bs:List AV}(hb:IsB8 bs):noRef (.lst 1 bs .open_)=true:=by simp only[noRef,hb.isB.noRefs];rfl
theorem ok19{bs:List AV}(hb:IsB8 bs)(hl:bs.length<281474976710656){at_ c0 c1:Int}{c2 c3 c4:ByteArray}{k e:Int}(hg:getC bs at_=(mkC c0 c1 c2 c3 c4,k,e)):CallOK (X19 bs at_ c0 c1 c2 c3 c4 k e).E (X19 bs at_ c0 c1 c2 c3 c4 k e).calls:=callsBy_ok rfl fun c hc=>by
 obtain rfl:=List.mem_singleton.1 hc
 exact clAt_con fun m=>by have:=conGetC at_ hb hl m;rw[hg]at this;exact this
theorem ok20{bs:List AV}(hb:IsB8 bs)(hl:bs.length<281474976710656){L:List tyC.I}(hL:L.length<1000){at_ c0 c1:Int}{c2 c3 c4:ByteArray}{k e:Int}(hg:getC bs at_=(mkC c0 c1 c2 c3 c4,k,e)){l:AV}(hle:Le l (encL tyC L)):
  CallOK (X20 bs at_ l c0 c1 c2 c3 c4 k e (findC L (mkC c0 c1 c2 c3 c4))).E (X20 bs at_ l c0 c1 c2 c3 c4 k e (findC L (mkC c0 c1 c2 c3 c4))).calls:=callsBy_ok rfl fun c hc=>by
 rcases List.mem_cons.1 hc with rfl|hc
 ·exact clAt_con fun m=>by have:=conGetCR at_ hb hl m;rw[hg]at this;exact this
 ·obtain rfl:=List.mem_singleton.1 hc
  exact clAt_con fun m=>(con62 L c0 c1 c2 c3 c4 (by omega) m).args (.cons hle (.cons (Le.refl _) .nil))
theorem err19{bs:List AV}(hb:IsB8 bs)(hl:bs.length<281474976710656){at_ n:Int}{L:List tyC.I}{c:tyC.I}{k e:Int}(hg:getC bs at_=(c,k,e))(he:e≠0)(hi:(L.length:Int)<n):
  Tri E0 56 [] bd19 (frm (st19 bs at_ n L L.length)) (hm19 L) .ret (frm [(4, .nils),(5, .int .i64 0),(6, .int .i64 e)]) []:=by
 obtain⟨c0,c1,c2,c3,c4⟩:=c
 cases L with
 |nil=>exact Tri.way g0 noG0 (ok19 hb hl hg) KOK.none rfl (p19n_0 bs at_ c0 c1 c2 c3 c4 k e [] n 0 hi he) [] rfl (by decide) trivial ⟨⟨Le.refl _,rfl⟩,⟨Le.refl _,rfl⟩,⟨Le.refl _,rfl⟩,trivial⟩
 |cons d L=>exact Tri.way g0 noG0 (ok19 hb hl hg) KOK.none rfl (p19o_0 bs at_ c0 c1 c2 c3 c4 k e (setBy tyC.elem (d::L)) n ((d::L).length) (d::L) hi he) [] rfl (by decide) trivial ⟨⟨Le.refl _,rfl⟩,⟨Le.refl _,rfl⟩,⟨Le.refl _,rfl⟩,trivial⟩
theorem err20{bs:List AV}(hb:IsB8 bs)(hl:bs.length<281474976710656){at_ n:Int}{L:List tyC.I}(hL:L.length<1000){c:tyC.I}{k e:Int}(hg:getC bs at_=(c,k,e))(he:e≠0)(hi:(L.length:Int)<n):
  Tri E0 56 [] bd20 (frm (st20 bs at_ n L L.length)) (hm20 L) .ret (frm [(4, .nils),(5, .int .i64 0),(6, .int .i64 e)]) []:=by
 obtain⟨c0,c1,c2,c3,c4⟩:=c
 cases L with
 |nil=>exact Tri.way g0 noG0 (ok20 hb hl (L:= []) hL hg (Le.nils nofun)) KOK.none rfl (p20n_0 bs at_ c0 c1 c2 c3 c4 k e _ n 0 hi he) [] rfl (by decide) trivial ⟨⟨Le.refl _,rfl⟩,⟨Le.refl _,rfl⟩,⟨Le.refl _,rfl⟩,trivial⟩
 |cons d L=>exact Tri.way g0 noG0 (ok20 hb hl hL hg (Le.refl _)) KOK.none rfl (p20o_0 bs at_ c0 c1 c2 c3 c4 k e _ n ((d::L).length) (d::L) hi he) [] rfl (by decide) trivial ⟨⟨Le.refl _,rfl⟩,⟨Le.refl _,rfl⟩,⟨Le.refl _,rfl⟩,trivial⟩
theorem dup19{bs:List AV}(hb:IsB8 bs)(hl:bs.length<281474976710656){at_ n:Int}{L:List tyC.I}{c:tyC.I}{k:Int}(hg:getC bs at_=(c,k,0))(hc:c∈L)(hi:(L.length:Int)<n):
  Tri E0 56 [] bd19 (frm (st19 bs at_ n L L.length)) (hm19 L) .ret (frm [(4, .nils),(5, .int .i64 0),(6, .int .i64 8)]) []:=by
 obtain⟨i,hf,_,_⟩:=findBy_in (P:=Tryd.prog) (S:=E0.S) (kt:=24) eqT_C c L hc;obtain⟨c0,c1,c2,c3,c4⟩:=c
 cases L with
 |nil=>cases hc
 |cons d L=>
  have hB:findB Tryd.prog E0.S 24 (tyC.elem (mkC c0 c1 c2 c3 c4)) (setBy tyC.elem (d::L))=true:=by unfold findB;rw[hf]
  have hS:findS Tryd.prog E0.S 24 (tyC.elem (mkC c0 c1 c2 c3 c4)) (setBy tyC.elem (d::L))=true:=by unfold findS;rw[hf];rfl
  have hV:findV Tryd.prog E0.S 24 (tyC.elem (mkC c0 c1 c2 c3 c4)) (setBy tyC.elem (d::L))= .bool true:=by unfold findV;rw[hf]
  have ha:(!aggB Tryd.prog 4&&fits1 Tryd.prog 4 (.bool true))=true:=by kernel_rfl
  exact Tri.way g0 noG0 (ok19 hb hl hg) KOK.none rfl (p19o_1 bs at_ c0 c1 c2 c3 c4 k 0 (setBy tyC.elem (d::L)) n ((d::L).length) (d::L) hi rfl hB (by
   show(findS Tryd.prog E0.S 24 (tyC.elem (mkC c0 c1 c2 c3 c4)) (setBy tyC.elem (d::L))&&(!aggB Tryd.prog 4&&fits1 Tryd.prog 4 (findV Tryd.prog E0.S 24 (tyC.elem (mkC c0 c1 c2 c3 c4)) (setBy tyC.elem (d::L)))))=true
   rw[hS,hV,ha];rfl) (by
   show(findV Tryd.prog E0.S 24 (tyC.elem (mkC c0 c1 c2 c3 c4)) (setBy tyC.elem (d::L))).toB=true
   rw[hV];rfl)) [] rfl (by decide) trivial ⟨⟨Le.refl _,rfl⟩,⟨Le.refl _,rfl⟩,⟨Le.refl _,rfl⟩,trivial⟩
theorem dup20{bs:List AV}(hb:IsB8 bs)(hl:bs.length<281474976710656){at_ n:Int}{L:List tyC.I}(hL:L.length<1000){c:tyC.I}{k:Int}(hg:getC bs at_=(c,k,0))(hc:c∈L)(hi:(L.length:Int)<n):
  Tri E0 56 [] bd20 (frm (st20 bs at_ n L L.length)) (hm20 L) .ret (frm [(4, .nils),(5, .int .i64 0),(6, .int .i64 8)]) []:=by
 obtain⟨c0,c1,c2,c3,c4⟩:=c
 cases L with
 |nil=>cases hc
 |cons d L=>exact Tri.way g0 noG0 (ok20 hb hl hL hg (Le.refl _)) KOK.none rfl (p20o_1 bs at_ c0 c1 c2 c3 c4 k 0 _ n ((d::L).length) (d::L) hi rfl (findC_pos hc)) [] rfl (by decide) trivial ⟨⟨Le.refl _,rfl⟩,⟨Le.refl _,rfl⟩,⟨Le.refl _,rfl⟩,trivial⟩
theorem out19{bs:List AV}(hb:IsB8 bs)(hl:bs.length<281474976710656){at_ n:Int}{L:List tyC.I}{c:tyC.I}{k e:Int}(hg:getC bs at_=(c,k,e))(hi: ¬(L.length:Int)<n):
  Tri E0 56 [] bd19 (frm (st19 bs at_ n L L.length)) (hm19 L) (.exit 1) (frm [(1, .int .i64 at_),(9,own5 L 1)]) (hm19 L):=by
 obtain⟨c0,c1,c2,c3,c4⟩:=c
 cases L with
 |nil=>exact Tri.way g0 noG0 (ok19 hb hl hg) KOK.none rfl (p19n_4 bs at_ c0 c1 c2 c3 c4 k e [] n 0 hi) [0] rfl (by decide) ⟨⟨nofun,_,rfl,LeB.refl _⟩,trivial⟩ ⟨⟨Le.refl _,rfl⟩,⟨Le.refl _,rfl⟩,trivial⟩
 |cons d L=>exact Tri.way g0 noG0 (ok19 hb hl hg) KOK.none rfl (p19o_4 bs at_ c0 c1 c2 c3 c4 k e (setBy tyC.elem (d::L)) n ((d::L).length) (d::L) hi) [0,1] rfl (by decide) ⟨⟨nofun,_,rfl,leM (setC_noRef _)⟩,⟨nofun,_,rfl,LeB.refl _⟩,trivial⟩ ⟨⟨Le.refl _,rfl⟩,⟨leL (noRefsC (d::L)) rfl,rfl⟩,trivial⟩
theorem out20{bs:List AV}(hb:IsB8 bs)(hl:bs.length<281474976710656){at_ n:Int}{L:List tyC.I}(hL:L.length<1000){c:tyC.I}{k e:Int}(hg:getC bs at_=(c,k,e))(hi: ¬(L.length:Int)<n):
  Tri E0 56 [] bd20 (frm (st20 bs at_ n L L.length)) (hm20 L) (.exit 0) (frm [(1, .int .i64 at_),(9,own5 L 0)]) (hm20 L):=by
 obtain⟨c0,c1,c2,c3,c4⟩:=c
 cases L with
 |nil=>exact Tri.way g0 noG0 (ok20 hb hl (L:= []) hL hg (Le.nils nofun)) KOK.none rfl (p20n_3 bs at_ c0 c1 c2 c3 c4 k e _ n 0 hi) [] rfl (by decide) trivial ⟨⟨Le.refl _,rfl⟩,⟨Le.refl _,rfl⟩,trivial⟩
 |cons d L=>exact Tri.way g0 noG0 (ok20 hb hl hL hg (Le.refl _)) KOK.none rfl (p20o_3 bs at_ c0 c1 c2 c3 c4 k e _ n ((d::L).length) (d::L) hi) [0] rfl (by decide) ⟨⟨nofun,_,rfl,LeB.refl _⟩,trivial⟩ ⟨⟨Le.refl _,rfl⟩,⟨leL (noRefsC (d::L)) rfl,rfl⟩,trivial⟩
theorem go19{bs:List AV}(hb:IsB8 bs)(hl:bs.length<281474976710656){at_ n:Int}{L:List tyC.I}{c:tyC.I}{k:Int}(hg:getC bs at_=(c,k,0))(hc:c∉L)(hi:(L.length:Int)<n)(hL:L.length<1000):
  Tri E0 56 [] bd19 (frm (st19 bs at_ n L L.length)) (hm19 L) .normal (frm (st19 bs k n (L++ [c]) (L++ [c]).length)) (hm19 (L++ [c])):=by
 have hf:=findBy_out (P:=Tryd.prog) (S:=E0.S) (kt:=24) eqT_C c L hc;obtain⟨po,pm⟩:=setBy_put (P:=Tryd.prog) (S:=E0.S) (kt:=24) eqT_C plain_C c L
 have hw:=wrap_len L c hL
 have hB:findB Tryd.prog E0.S 24 (tyC.elem c) (setBy tyC.elem L)=false:=by unfold findB;rw[hf]
 have hS:findS Tryd.prog E0.S 24 (tyC.elem c) (setBy tyC.elem L)=true:=by unfold findS;rw[hf];rfl
 have ha:adds L c=L++ [c]:=by unfold adds;rw[if_neg hc]
 rw[ha]at pm;unfold st19;rw[own5_snoc,hm19_snoc,←hw,←pm];obtain⟨c0,c1,c2,c3,c4⟩:=c
 have hm: ∀{κ:Nat→Nat},LeB (.map (putM Tryd.prog E0.S 24 (tyC.elem (mkC c0 c1 c2 c3 c4)) (.bool true) (setBy tyC.elem L))) (renB κ (.map (putM Tryd.prog E0.S 24 (tyC.elem (mkC c0 c1 c2 c3 c4)) (.bool true) (setBy tyC.elem L)))):=by
  intro κ;rw[pm];exact leM (setC_noRef _)
 cases L with
 |nil=>exact Tri.way g0 noG0 (ok19 hb hl hg) KOK.none rfl (p19n_3 bs at_ c0 c1 c2 c3 c4 k 0 [] n 0 hi rfl hB hS po) [0,3] rfl (by decide) ⟨⟨nofun,_,rfl,hm⟩,⟨nofun,_,rfl,LeB.refl _⟩,trivial⟩ ⟨⟨leN (noRef1 hb),rfl⟩,⟨Le.refl _,rfl⟩,⟨leL (noRefsC1 [] (mkC c0 c1 c2 c3 c4)) rfl,rfl⟩,⟨Le.refl _,rfl⟩,⟨Le.refl _,rfl⟩,⟨Le.refl _,rfl⟩,trivial⟩
 |cons d L=>exact Tri.way g0 noG0 (ok19 hb hl hg) KOK.none rfl (p19o_3 bs at_ c0 c1 c2 c3 c4 k 0 (setBy tyC.elem (d::L)) n ((d::L).length) (d::L) hi rfl hB hS po (room5 hL _ rfl)) [0,4] rfl (by decide) ⟨⟨nofun,_,rfl,hm⟩,⟨nofun,_,rfl,LeB.refl _⟩,trivial⟩ ⟨⟨leN (noRef1 hb),rfl⟩,⟨Le.refl _,rfl⟩,⟨leL (noRefsC1 (d::L) (mkC c0 c1 c2 c3 c4)) rfl,rfl⟩,⟨Le.refl _,rfl⟩,⟨Le.refl _,rfl⟩,⟨Le.refl _,rfl⟩,trivial⟩
theorem go20{bs:List AV}(hb:IsB8 bs)(hl:bs.length<281474976710656){at_ n:Int}{L:List tyC.I}{c:tyC.I}{k:Int}(hg:getC bs at_=(c,k,0))(hc:c∉L)(hi:(L.length:Int)<n)(hL:L.length<1000):
  Tri E0 56 [] bd20 (frm (st20 bs at_ n L L.length)) (hm20 L) .normal (frm (st20 bs k n (L++ [c]) (L++ [c]).length)) (hm20 (L++ [c])):=by
 have hw:=wrap_len L c hL
 unfold st20;rw[own5_snoc,hm20_snoc,←hw];obtain⟨c0,c1,c2,c3,c4⟩:=c
 cases L with
 |nil=>exact Tri.way g0 noG0 (ok20 hb hl (L:= []) hL hg (Le.nils nofun)) KOK.none rfl (p20n_2 bs at_ c0 c1 c2 c3 c4 k 0 _ n 0 hi rfl (findC_neg hc)) [2] rfl (by decide) ⟨⟨nofun,_,rfl,LeB.refl _⟩,trivial⟩ ⟨⟨leN (noRef1 hb),rfl⟩,⟨Le.refl _,rfl⟩,⟨Le.refl _,rfl⟩,⟨leL (noRefsC1 [] (mkC c0 c1 c2 c3 c4)) rfl,rfl⟩,⟨Le.refl _,rfl⟩,trivial⟩
 |cons d L=>exact Tri.way g0 noG0 (ok20 hb hl hL hg (Le.refl _)) KOK.none rfl (p20o_2 bs at_ c0 c1 c2 c3 c4 k 0 _ n ((d::L).length) (d::L) hi rfl (findC_neg hc) (room5 hL _ rfl)) [3] rfl (by decide) ⟨⟨nofun,_,rfl,LeB.refl _⟩,trivial⟩ ⟨⟨leN (noRef1 hb),rfl⟩,⟨Le.refl _,rfl⟩,⟨Le.refl _,rfl⟩,⟨leL (noRefsC1 (d::L) (mkC c0 c1 c2 c3 c4)) rfl,rfl⟩,⟨Le.refl _,rfl⟩,trivial⟩
theorem rounds19{bs:List AV}(hb:IsB8 bs)(hl:bs.length<281474976710656){n:Nat}(hn:n≤256): ∀(d:Nat) (a:Int) (L:List tyC.I),L.length+d=n→
  ((readAll bs d a L).2.2=0→TRounds E0 56 [] bd19 (frm (st19 bs a n L L.length)) (hm19 L) (.exit 1) (frm [(1, .int .i64 (readAll bs d a L).2.1),(9,own5 (readAll bs d a L).1 1)]) (hm19 (readAll bs d a L).1))∧
  ((readAll bs d a L).2.2≠0→TRounds E0 56 [] bd19 (frm (st19 bs a n L L.length)) (hm19 L) .ret (frm [(4, .nils),(5, .int .i64 0),(6, .int .i64 (readAll bs d a L).2.2)]) [])
 |0,a,L,h=>by
  obtain⟨c,k,e,hg⟩: ∃c k e,getC bs a=(c,k,e):=⟨_,_,_,rfl⟩;exact⟨fun _=> .done (out19 hb hl hg (by omega)) nofun,fun h=>absurd rfl h⟩
 |d+1,a,L,h=>by
  obtain⟨c,k,e,hg⟩: ∃c k e,getC bs a=(c,k,e):=⟨_,_,_,rfl⟩;simp only[readAll];rw[hg]
  dsimp only
  by_cases he:e=0
  case neg=>rw [if_pos he];exact⟨fun h=>absurd h he,fun _=> .done (err19 hb hl hg he (by omega)) nofun⟩
  subst he;rw[if_neg (by simp)]
  by_cases hc:c∈L
  ·rw[if_pos hc];exact⟨fun h=>absurd h (by decide),fun _=> .done (dup19 hb hl hg hc (by omega)) nofun⟩
  rw[if_neg hc]
  have ih:=rounds19 hb hl hn d k (L++ [c]) (by rw[List.length_append,List.length_singleton];omega)
  exact⟨fun h0=> .more (go19 hb hl hg hc (by omega) (by omega)) (ih.1 h0),fun h0=> .more (go19 hb hl hg hc (by omega) (by omega)) (ih.2 h0)⟩
theorem rounds20{bs:List AV}(hb:IsB8 bs)(hl:bs.length<281474976710656){n:Nat}(hn:n≤256): ∀(d:Nat) (a:Int) (L:List tyC.I),L.length+d=n→
  ((readAll bs d a L).2.2=0→TRounds E0 56 [] bd20 (frm (st20 bs a n L L.length)) (hm20 L) (.exit 0) (frm [(1, .int .i64 (readAll bs d a L).2.1),(9,own5 (readAll bs d a L).1 0)]) (hm20 (readAll bs d a L).1))∧
  ((readAll bs d a L).2.2≠0→TRounds E0 56 [] bd20 (frm (st20 bs a n L L.length)) (hm20 L) .ret (frm [(4, .nils),(5, .int .i64 0),(6, .int .i64 (readAll bs d a L).2.2)]) [])
 |0,a,L,h=>by
  obtain⟨c,k,e,hg⟩: ∃c k e,getC bs a=(c,k,e):=⟨_,_,_,rfl⟩;exact⟨fun _=> .done (out20 hb hl (by omega) hg (by omega)) nofun,fun h=>absurd rfl h⟩
 |d+1,a,L,h=>by
  obtain⟨c,k,e,hg⟩: ∃c k e,getC bs a=(c,k,e):=⟨_,_,_,rfl⟩;simp only[readAll];rw[hg]
  dsimp only
  by_cases he:e=0
  case neg=>rw [if_pos he];exact⟨fun h=>absurd h he,fun _=> .done (err20 hb hl (by omega) hg he (by omega)) nofun⟩
  subst he;rw[if_neg (by simp)]
  by_cases hc:c∈L
  ·rw[if_pos hc];exact⟨fun h=>absurd h (by decide),fun _=> .done (dup20 hb hl (by omega) hg hc (by omega)) nofun⟩
  rw[if_neg hc]
  have ih:=rounds20 hb hl hn d k (L++ [c]) (by rw[List.length_append,List.length_singleton];omega)
  exact⟨fun h0=> .more (go20 hb hl hg hc (by omega) (by omega)) (ih.1 h0),fun h0=> .more (go20 hb hl hg hc (by omega) (by omega)) (ih.2 h0)⟩
theorem readAll_err(bs:List AV): ∀(d:Nat) (a:Int) (L:List tyC.I),(readAll bs d a L).2.2≠0→readAll bs d a L=([],0,(readAll bs d a L).2.2)
 |0,a,L,h=>absurd rfl h
 |d+1,a,L,h=>by
  simp only[readAll]at h ⊢
  split
  ·rfl
  ·split
   ·rfl
   ·rename_i h1 h2
    rw[if_neg h1,if_neg h2]at h;exact readAll_err bs d _ _ h
end Go.Proofs.YthnajefdiljneaaDoor.AM
end
section
-- SQUEEZED
namespace Go.Proofs.YthnajefdiljneaaDoor.AM
open Go Go.Proofs Go.RowKit Go.Proofs.YthnajefdiljneaaDoor Go.Proofs.YthnajefdiljneaaDoorW.PrintWords
set_option linter.unusedVariables false
set_option linter.unusedSimpArgs false
noncomputable def X19w(f g:FuncId)(sp:List Nat)(bs:List AV)(a n k e:Int):SX:=XC f sp [clAt g [.lst 1 bs .open_, .int .i64 a] (.tup [.int .i64 n, .int .i64 k, .int .i64 e])]
theorem w19x(bs:List AV)(a n k e:Int):runV (X19w 19 37 [19,23,26,33,42,46] bs a n k e) (kNo [1,1,1,1,1,0,1]) Tryd.f19 (bodyOf Tryd.f19) [.lst 1 bs .open_, .int .i64 a]=
 (T.br (askQ
 (clAt 37 [.lst 1 bs .open_, .int .i64 a]
   (.tup [.int .i64 n, .int .i64 k, .int .i64 e])).2
 [.lst 1 bs .open_, .int .i64 a])
  (T.br (!decide (e=0))
   (T.leaf (.tup [AV.nils, .int .i64 0, .int .i64 e]))
   (T.br (decide (n<0))
    (T.br true
     (T.leaf (.tup [AV.nils, .int .i64 0, .int .i64 6]))
     T.fail)
    (T.br (decide (256<n))
     (T.leaf (.tup [AV.nils, .int .i64 0, .int .i64 6]))
     T.fail)))
  T.fail):=by kernel_rfl
theorem w19x_0(bs:List AV)(a n k e:Int)(h0: ¬(e=0)):(runV (X19w 19 37 [19,23,26,33,42,46] bs a n k e) (kNo [1,1,1,1,1,0,1]) Tryd.f19 (bodyOf Tryd.f19) [.lst 1 bs .open_, .int .i64 a]).run= .ok (.tup [AV.nils, .int .i64 0, .int .i64 e]):=by
 rw[w19x];exact(bT (ask_true rfl) (bT (ndT h0) rfl))
theorem w19x_1(bs:List AV)(a n k e:Int)(h0:e=0)(h1:n<0):(runV (X19w 19 37 [19,23,26,33,42,46] bs a n k e) (kNo [1,1,1,1,1,0,1]) Tryd.f19 (bodyOf Tryd.f19) [.lst 1 bs .open_, .int .i64 a]).run= .ok (.tup [AV.nils, .int .i64 0, .int .i64 6]):=by
 rw[w19x];exact(bT (ask_true rfl) (bF (ndF h0) (bT (decide_eq_true h1) (bT rfl rfl))))
theorem w19x_2(bs:List AV)(a n k e:Int)(h0:e=0)(h1: ¬(n<0))(h2:256<n):(runV (X19w 19 37 [19,23,26,33,42,46] bs a n k e) (kNo [1,1,1,1,1,0,1]) Tryd.f19 (bodyOf Tryd.f19) [.lst 1 bs .open_, .int .i64 a]).run= .ok (.tup [AV.nils, .int .i64 0, .int .i64 6]):=by
 rw[w19x];exact(bT (ask_true rfl) (bF (ndF h0) (bF (decide_eq_false h1) (bT (decide_eq_true h2) rfl))))
theorem w19r(bs:List AV)(a n k e:Int)(e':Int):runV (X19w 19 37 [19,23,26,33,42,46] bs a n k e) (kAt [1,1,1,1,1,0,1] (st19 bs k n [] 0) [.map []] .ret [(4, .nils),(5, .int .i64 0),(6, .int .i64 e')] []) Tryd.f19 (bodyOf Tryd.f19) [.lst 1 bs .open_, .int .i64 a]=
 (T.br (askQ
 (clAt 37 [.lst 1 bs .open_, .int .i64 a]
   (.tup [.int .i64 n, .int .i64 k, .int .i64 e])).2
 [.lst 1 bs .open_, .int .i64 a])
  (T.br (!decide (e=0))
   (T.leaf (.tup [AV.nils, .int .i64 0, .int .i64 e]))
   (T.br (decide (n<0))
    (T.br true
     (T.leaf (.tup [AV.nils, .int .i64 0, .int .i64 6]))
     (T.br (askS
 [.lst 1 bs .open_, .int .i64 k,AV.nils,AV.map 0, .int .i64 n,
  .int .i64 0]
 [.lst 1 bs .open_, .int .i64 k,AV.nils,AV.map 0, .int .i64 n,
  .int .i64 0]
 [Blk.map []] [Blk.map []])
           (T.leaf (.tup [AV.nils, .int .i64 0, .int .i64 e']))
           T.fail))
    (T.br (decide (256<n))
     (T.leaf (.tup [AV.nils, .int .i64 0, .int .i64 6]))
     (T.br (askS
 [.lst 1 bs .open_, .int .i64 k,AV.nils,AV.map 0, .int .i64 n,
  .int .i64 0]
 [.lst 1 bs .open_, .int .i64 k,AV.nils,AV.map 0, .int .i64 n,
  .int .i64 0]
 [Blk.map []] [Blk.map []])
           (T.leaf (.tup [AV.nils, .int .i64 0, .int .i64 e']))
           T.fail))))
  T.fail):=by kernel_rfl
theorem w19r_3(bs:List AV)(a n k e:Int)(e':Int)(h0:e=0)(h1: ¬(n<0))(h2: ¬(256<n)):(runV (X19w 19 37 [19,23,26,33,42,46] bs a n k e) (kAt [1,1,1,1,1,0,1] (st19 bs k n [] 0) [.map []] .ret [(4, .nils),(5, .int .i64 0),(6, .int .i64 e')] []) Tryd.f19 (bodyOf Tryd.f19) [.lst 1 bs .open_, .int .i64 a]).run= .ok (.tup [AV.nils, .int .i64 0, .int .i64 e']):=by
 rw[w19r];exact(bT (ask_true rfl) (bF (ndF h0) (bF (decide_eq_false h1) (bF (decide_eq_false h2) (bT (askS_self _ _) rfl)))))
theorem w19n(bs:List AV)(a n k e:Int)(a':Int)(h':H):runV (X19w 19 37 [19,23,26,33,42,46] bs a n k e) (kAt [1,1,1,1,1,0,1] (st19 bs k n [] 0) [.map []] .normal [(1, .int .i64 a'),(9, .nils)] h') Tryd.f19 (bodyOf Tryd.f19) [.lst 1 bs .open_, .int .i64 a]=
 (T.br (askQ
 (clAt 37 [.lst 1 bs .open_, .int .i64 a]
   (.tup [.int .i64 n, .int .i64 k, .int .i64 e])).2
 [.lst 1 bs .open_, .int .i64 a])
  (T.br (!decide (e=0))
   (T.leaf (.tup [AV.nils, .int .i64 0, .int .i64 e]))
   (T.br (decide (n<0))
    (T.br true
     (T.leaf (.tup [AV.nils, .int .i64 0, .int .i64 6]))
     (T.br (askS
 [.lst 1 bs .open_, .int .i64 k,AV.nils,AV.map 0, .int .i64 n,
  .int .i64 0]
 [.lst 1 bs .open_, .int .i64 k,AV.nils,AV.map 0, .int .i64 n,
  .int .i64 0]
 [Blk.map []] [Blk.map []])
           (T.leaf (.tup [AV.nils, .int .i64 a', .int .i64 0]))
           T.fail))
    (T.br (decide (256<n))
     (T.leaf (.tup [AV.nils, .int .i64 0, .int .i64 6]))
     (T.br (askS
 [.lst 1 bs .open_, .int .i64 k,AV.nils,AV.map 0, .int .i64 n,
  .int .i64 0]
 [.lst 1 bs .open_, .int .i64 k,AV.nils,AV.map 0, .int .i64 n,
  .int .i64 0]
 [Blk.map []] [Blk.map []])
           (T.leaf (.tup [AV.nils, .int .i64 a', .int .i64 0]))
           T.fail))))
  T.fail):=by kernel_rfl
theorem w19n_3(bs:List AV)(a n k e:Int)(a':Int)(h':H)(h0:e=0)(h1: ¬(n<0))(h2: ¬(256<n)):(runV (X19w 19 37 [19,23,26,33,42,46] bs a n k e) (kAt [1,1,1,1,1,0,1] (st19 bs k n [] 0) [.map []] .normal [(1, .int .i64 a'),(9, .nils)] h') Tryd.f19 (bodyOf Tryd.f19) [.lst 1 bs .open_, .int .i64 a]).run= .ok (.tup [AV.nils, .int .i64 a', .int .i64 0]):=by
 rw[w19n];exact(bT (ask_true rfl) (bF (ndF h0) (bF (decide_eq_false h1) (bF (decide_eq_false h2) (bT (askS_self _ _) rfl)))))
theorem w19o(bs:List AV)(a n k e:Int)(a':Int)(l:List AV)(t:Nat)(h':H):runV (X19w 19 37 [19,23,26,33,42,46] bs a n k e) (kAt [1,1,1,1,1,0,1] (st19 bs k n [] 0) [.map []] .normal [(1, .int .i64 a'),(9, .lst 5 l (.own t))] h') Tryd.f19 (bodyOf Tryd.f19) [.lst 1 bs .open_, .int .i64 a]=
 (T.br (askQ
 (clAt 37 [.lst 1 bs .open_, .int .i64 a]
   (.tup [.int .i64 n, .int .i64 k, .int .i64 e])).2
 [.lst 1 bs .open_, .int .i64 a])
  (T.br (!decide (e=0))
   (T.leaf (.tup [AV.nils, .int .i64 0, .int .i64 e]))
   (T.br (decide (n<0))
    (T.br true
     (T.leaf (.tup [AV.nils, .int .i64 0, .int .i64 6]))
     (T.br (askS
 [.lst 1 bs .open_, .int .i64 k,AV.nils,AV.map 0, .int .i64 n,
  .int .i64 0]
 [.lst 1 bs .open_, .int .i64 k,AV.nils,AV.map 0, .int .i64 n,
  .int .i64 0]
 [Blk.map []] [Blk.map []])
           (T.leaf (.tup [.lst 5 l (Tl.own t), .int .i64 a', .int .i64 0]))
           T.fail))
    (T.br (decide (256<n))
     (T.leaf (.tup [AV.nils, .int .i64 0, .int .i64 6]))
     (T.br (askS
 [.lst 1 bs .open_, .int .i64 k,AV.nils,AV.map 0, .int .i64 n,
  .int .i64 0]
 [.lst 1 bs .open_, .int .i64 k,AV.nils,AV.map 0, .int .i64 n,
  .int .i64 0]
 [Blk.map []] [Blk.map []])
           (T.leaf (.tup [.lst 5 l (Tl.own t), .int .i64 a', .int .i64 0]))
           T.fail))))
  T.fail):=by kernel_rfl
theorem w19o_3(bs:List AV)(a n k e:Int)(a':Int)(l:List AV)(t:Nat)(h':H)(h0:e=0)(h1: ¬(n<0))(h2: ¬(256<n)):(runV (X19w 19 37 [19,23,26,33,42,46] bs a n k e) (kAt [1,1,1,1,1,0,1] (st19 bs k n [] 0) [.map []] .normal [(1, .int .i64 a'),(9, .lst 5 l (.own t))] h') Tryd.f19 (bodyOf Tryd.f19) [.lst 1 bs .open_, .int .i64 a]).run= .ok (.tup [.lst 5 l (Tl.own t), .int .i64 a', .int .i64 0]):=by
 rw[w19o];exact(bT (ask_true rfl) (bF (ndF h0) (bF (decide_eq_false h1) (bF (decide_eq_false h2) (bT (askS_self _ _) rfl)))))
theorem w20x(bs:List AV)(a n k e:Int):runV (X19w 20 40 [22,26,29,32,43,48] bs a n k e) (kNo [1,1,1,1,1,0,1]) Tryd.f20 (bodyOf Tryd.f20) [.lst 1 bs .open_, .int .i64 a]=
 (T.br (askQ
 (clAt 40 [.lst 1 bs .open_, .int .i64 a]
   (.tup [.int .i64 n, .int .i64 k, .int .i64 e])).2
 [.lst 1 bs .open_, .int .i64 a])
  (T.br (!decide (e=0))
   (T.leaf (.tup [AV.nils, .int .i64 0, .int .i64 e]))
   (T.br (decide (n<0))
    (T.br true
     (T.leaf (.tup [AV.nils, .int .i64 0, .int .i64 6]))
     T.fail)
    (T.br (decide (256<n))
     (T.leaf (.tup [AV.nils, .int .i64 0, .int .i64 6]))
     T.fail)))
  T.fail):=by kernel_rfl
theorem w20x_0(bs:List AV)(a n k e:Int)(h0: ¬(e=0)):(runV (X19w 20 40 [22,26,29,32,43,48] bs a n k e) (kNo [1,1,1,1,1,0,1]) Tryd.f20 (bodyOf Tryd.f20) [.lst 1 bs .open_, .int .i64 a]).run= .ok (.tup [AV.nils, .int .i64 0, .int .i64 e]):=by
 rw[w20x];exact(bT (ask_true rfl) (bT (ndT h0) rfl))
theorem w20x_1(bs:List AV)(a n k e:Int)(h0:e=0)(h1:n<0):(runV (X19w 20 40 [22,26,29,32,43,48] bs a n k e) (kNo [1,1,1,1,1,0,1]) Tryd.f20 (bodyOf Tryd.f20) [.lst 1 bs .open_, .int .i64 a]).run= .ok (.tup [AV.nils, .int .i64 0, .int .i64 6]):=by
 rw[w20x];exact(bT (ask_true rfl) (bF (ndF h0) (bT (decide_eq_true h1) (bT rfl rfl))))
theorem w20x_2(bs:List AV)(a n k e:Int)(h0:e=0)(h1: ¬(n<0))(h2:256<n):(runV (X19w 20 40 [22,26,29,32,43,48] bs a n k e) (kNo [1,1,1,1,1,0,1]) Tryd.f20 (bodyOf Tryd.f20) [.lst 1 bs .open_, .int .i64 a]).run= .ok (.tup [AV.nils, .int .i64 0, .int .i64 6]):=by
 rw[w20x];exact(bT (ask_true rfl) (bF (ndF h0) (bF (decide_eq_false h1) (bT (decide_eq_true h2) rfl))))
theorem w20r(bs:List AV)(a n k e:Int)(e':Int):runV (X19w 20 40 [22,26,29,32,43,48] bs a n k e) (kAt [1,1,1,1,1,0,1] (st20 bs k n [] 0) [] .ret [(4, .nils),(5, .int .i64 0),(6, .int .i64 e')] []) Tryd.f20 (bodyOf Tryd.f20) [.lst 1 bs .open_, .int .i64 a]=
 (T.br (askQ
 (clAt 40 [.lst 1 bs .open_, .int .i64 a]
   (.tup [.int .i64 n, .int .i64 k, .int .i64 e])).2
 [.lst 1 bs .open_, .int .i64 a])
  (T.br (!decide (e=0))
   (T.leaf (.tup [AV.nils, .int .i64 0, .int .i64 e]))
   (T.br (decide (n<0))
    (T.br true
     (T.leaf (.tup [AV.nils, .int .i64 0, .int .i64 6]))
     (T.br (askS
 [.lst 1 bs .open_, .int .i64 k, .int .i64 n,AV.nils, .int .i64 0]
 [.lst 1 bs .open_, .int .i64 k, .int .i64 n,AV.nils, .int .i64 0] []
 [])
      (T.leaf (.tup [AV.nils, .int .i64 0, .int .i64 e']))
      T.fail))
    (T.br (decide (256<n))
     (T.leaf (.tup [AV.nils, .int .i64 0, .int .i64 6]))
     (T.br (askS
 [.lst 1 bs .open_, .int .i64 k, .int .i64 n,AV.nils, .int .i64 0]
 [.lst 1 bs .open_, .int .i64 k, .int .i64 n,AV.nils, .int .i64 0] []
 [])
      (T.leaf (.tup [AV.nils, .int .i64 0, .int .i64 e']))
      T.fail))))
  T.fail):=by kernel_rfl
theorem w20r_3(bs:List AV)(a n k e:Int)(e':Int)(h0:e=0)(h1: ¬(n<0))(h2: ¬(256<n)):(runV (X19w 20 40 [22,26,29,32,43,48] bs a n k e) (kAt [1,1,1,1,1,0,1] (st20 bs k n [] 0) [] .ret [(4, .nils),(5, .int .i64 0),(6, .int .i64 e')] []) Tryd.f20 (bodyOf Tryd.f20) [.lst 1 bs .open_, .int .i64 a]).run= .ok (.tup [AV.nils, .int .i64 0, .int .i64 e']):=by
 rw[w20r];exact(bT (ask_true rfl) (bF (ndF h0) (bF (decide_eq_false h1) (bF (decide_eq_false h2) (bT (askS_self _ _) rfl)))))
theorem w20n(bs:List AV)(a n k e:Int)(a':Int)(h':H):runV (X19w 20 40 [22,26,29,32,43,48] bs a n k e) (kAt [1,1,1,1,1,0,1] (st20 bs k n [] 0) [] .normal [(1, .int .i64 a'),(9, .nils)] h') Tryd.f20 (bodyOf Tryd.f20) [.lst 1 bs .open_, .int .i64 a]=
 (T.br (askQ
 (clAt 40 [.lst 1 bs .open_, .int .i64 a]
   (.tup [.int .i64 n, .int .i64 k, .int .i64 e])).2
 [.lst 1 bs .open_, .int .i64 a])
  (T.br (!decide (e=0))
   (T.leaf (.tup [AV.nils, .int .i64 0, .int .i64 e]))
   (T.br (decide (n<0))
    (T.br true
     (T.leaf (.tup [AV.nils, .int .i64 0, .int .i64 6]))
     (T.br (askS
 [.lst 1 bs .open_, .int .i64 k, .int .i64 n,AV.nils, .int .i64 0]
 [.lst 1 bs .open_, .int .i64 k, .int .i64 n,AV.nils, .int .i64 0] []
 [])
      (T.leaf (.tup [AV.nils, .int .i64 a', .int .i64 0]))
      T.fail))
    (T.br (decide (256<n))
     (T.leaf (.tup [AV.nils, .int .i64 0, .int .i64 6]))
     (T.br (askS
 [.lst 1 bs .open_, .int .i64 k, .int .i64 n,AV.nils, .int .i64 0]
 [.lst 1 bs .open_, .int .i64 k, .int .i64 n,AV.nils, .int .i64 0] []
 [])
      (T.leaf (.tup [AV.nils, .int .i64 a', .int .i64 0]))
      T.fail))))
  T.fail):=by kernel_rfl
theorem w20n_3(bs:List AV)(a n k e:Int)(a':Int)(h':H)(h0:e=0)(h1: ¬(n<0))(h2: ¬(256<n)):(runV (X19w 20 40 [22,26,29,32,43,48] bs a n k e) (kAt [1,1,1,1,1,0,1] (st20 bs k n [] 0) [] .normal [(1, .int .i64 a'),(9, .nils)] h') Tryd.f20 (bodyOf Tryd.f20) [.lst 1 bs .open_, .int .i64 a]).run= .ok (.tup [AV.nils, .int .i64 a', .int .i64 0]):=by
 rw[w20n];exact(bT (ask_true rfl) (bF (ndF h0) (bF (decide_eq_false h1) (bF (decide_eq_false h2) (bT (askS_self _ _) rfl)))))
theorem w20o(bs:List AV)(a n k e:Int)(a':Int)(l:List AV)(t:Nat)(h':H):runV (X19w 20 40 [22,26,29,32,43,48] bs a n k e) (kAt [1,1,1,1,1,0,1] (st20 bs k n [] 0) [] .normal [(1, .int .i64 a'),(9, .lst 5 l (.own t))] h') Tryd.f20 (bodyOf Tryd.f20) [.lst 1 bs .open_, .int .i64 a]=
 (T.br (askQ
 (clAt 40 [.lst 1 bs .open_, .int .i64 a]
   (.tup [.int .i64 n, .int .i64 k, .int .i64 e])).2
 [.lst 1 bs .open_, .int .i64 a])
  (T.br (!decide (e=0))
   (T.leaf (.tup [AV.nils, .int .i64 0, .int .i64 e]))
   (T.br (decide (n<0))
    (T.br true
     (T.leaf (.tup [AV.nils, .int .i64 0, .int .i64 6]))
     (T.br (askS
 [.lst 1 bs .open_, .int .i64 k, .int .i64 n,AV.nils, .int .i64 0]
 [.lst 1 bs .open_, .int .i64 k, .int .i64 n,AV.nils, .int .i64 0] []
 [])
      (T.leaf (.tup [.lst 5 l (Tl.own t), .int .i64 a', .int .i64 0]))
      T.fail))
    (T.br (decide (256<n))
     (T.leaf (.tup [AV.nils, .int .i64 0, .int .i64 6]))
     (T.br (askS
 [.lst 1 bs .open_, .int .i64 k, .int .i64 n,AV.nils, .int .i64 0]
 [.lst 1 bs .open_, .int .i64 k, .int .i64 n,AV.nils, .int .i64 0] []
 [])
      (T.leaf (.tup [.lst 5 l (Tl.own t), .int .i64 a', .int .i64 0]))
      T.fail))))
  T.fail):=by kernel_rfl
theorem w20o_3(bs:List AV)(a n k e:Int)(a':Int)(l:List AV)(t:Nat)(h':H)(h0:e=0)(h1: ¬(n<0))(h2: ¬(256<n)):(runV (X19w 20 40 [22,26,29,32,43,48] bs a n k e) (kAt [1,1,1,1,1,0,1] (st20 bs k n [] 0) [] .normal [(1, .int .i64 a'),(9, .lst 5 l (.own t))] h') Tryd.f20 (bodyOf Tryd.f20) [.lst 1 bs .open_, .int .i64 a]).run= .ok (.tup [.lst 5 l (Tl.own t), .int .i64 a', .int .i64 0]):=by
 rw[w20o];exact(bT (ask_true rfl) (bF (ndF h0) (bF (decide_eq_false h1) (bF (decide_eq_false h2) (bT (askS_self _ _) rfl)))))
set_option maxRecDepth 100000 in
theorem conGetL{bs:List AV}(a:Int)(hb:IsB8 bs)(hl:bs.length<281474976710656)(h:H):Con E0 19 [.lst 1 bs .open_, .int .i64 a] h (.tup [encL tyC (getL bs a).1, .int .i64 (getL bs a).2.1, .int .i64 (getL bs a).2.2]) h:=by
 obtain⟨n,k,e,hg⟩: ∃n k e,getA bs a=(n,k,e):=⟨_,_,_,rfl⟩
 have hcall:CallOK (X19w 19 37 [19,23,26,33,42,46] bs a n k e).E (X19w 19 37 [19,23,26,33,42,46] bs a n k e).calls:=callsBy_ok rfl fun c hc=>by
  obtain rfl:=List.mem_singleton.1 hc
  exact clAt_con fun m=>by have:=conGetP a hb hl m;rw[hg]at this;exact this
 have fin: ∀{K:Known} {v:AV} {p:List tyC.I×Int×Int},KOK E0 56 [] (bodyOf Tryd.f19) K→(runV (X19w 19 37 [19,23,26,33,42,46] bs a n k e) K Tryd.f19 (bodyOf Tryd.f19) [.lst 1 bs .open_, .int .i64 a]).run= .ok (.tup [v, .int .i64 p.2.1, .int .i64 p.2.2])→Le v (encL tyC p.1)→
   Con E0 19 [.lst 1 bs .open_, .int .i64 a] h (.tup [encL tyC p.1, .int .i64 p.2.1, .int .i64 p.2.2]) h:=fun hK hr hle=>
  Con.pureV (X:=X19w 19 37 [19,23,26,33,42,46] bs a n k e) g0 noG0 hcall (fn:=Tryd.f19) Tryd.func19 (c:=bodyOf Tryd.f19) rfl rfl (args:= [.lst 1 bs .open_, .int .i64 a]) hK (noRefsB hb.isB rfl) hr (Le.tup (.cons hle (.cons (Le.refl _) (.cons (Le.refl _) .nil)))) (by simp only[noRef,noRefs,encL_noRef];rfl) h
 have hnil:Le .nils (encL tyC []):=Le.nils nofun;unfold getL;rw[hg]
 dsimp only
 by_cases he:e=0
 case neg=>rw [if_pos he];exact fin (p:=([],0,e)) (kNo_ok (p:= [1,1,1,1,1,0,1])) (w19x_0 bs a n k e he) hnil
 subst he;rw[if_neg (by simp)]
 by_cases h1:n<0
 ·rw[if_pos (.inl h1)];exact fin (p:=([],0,6)) (kNo_ok (p:= [1,1,1,1,1,0,1])) (w19x_1 bs a n k 0 rfl h1) hnil
 by_cases h5:256<n
 ·rw[if_pos (.inr h5)];exact fin (p:=([],0,6)) (kNo_ok (p:= [1,1,1,1,1,0,1])) (w19x_2 bs a n k 0 rfl h1 h5) hnil
 rw[if_neg (by omega)];obtain⟨m,rfl⟩:=Int.eq_ofNat_of_zero_le (show 0≤n by omega);rw[Int.toNat_natCast];obtain⟨r1,r2⟩:=rounds19 hb hl (n:=m) (by omega) m k [] (by rw[List.length_nil];omega);obtain⟨L,a',e',hr⟩: ∃L a' e',readAll bs m k []=(L,a',e'):=⟨_,_,_,rfl⟩
 rw[hr]at r1 r2 ⊢
 dsimp only at r1 r2
 by_cases h0:e'=0
 ·subst h0
  have hk: ∀{l h'},Tri E0 56 [] (sub (bodyOf Tryd.f19) [1,1,1,1,1,0,1]) (frm (st19 bs k m [] 0)) (hm19 []) .normal (frm [(1, .int .i64 a'),(9,l)]) h'→KOK E0 56 [] (bodyOf Tryd.f19) (kAt [1,1,1,1,1,0,1] (st19 bs k m [] 0) (hm19 []) .normal [(1, .int .i64 a'),(9,l)] h'):=fun ht=>kAt_ok ht
  have hT:=hk (Tri.block (id:=1) (Tri.loop (r1 rfl)))
  cases L with
  |nil=>exact fin (p:=([],a',0)) hT (w19n_3 bs a m k 0 a' _ rfl h1 h5) hnil
  |cons d L=>exact fin (p:=(d::L,a',0)) hT (w19o_3 bs a m k 0 a' ((d::L).map tyC.elem) 1 _ rfl h1 h5) Le.open_
 ·have hr2:KOK E0 56 [] (bodyOf Tryd.f19) (kAt [1,1,1,1,1,0,1] (st19 bs k m [] 0) (hm19 []) .ret [(4, .nils),(5, .int .i64 0),(6, .int .i64 e')] []):=kAt_ok (Tri.block (id:=1) (Tri.loop (r2 h0)))
  have e1:(L,a',e')=(([],0,e'):List tyC.I×Int×Int):=by rw[←hr];exact readAll_err bs m k [] (by rw[hr];exact h0)|>.trans (by rw[hr])
  rw[e1];exact fin (p:=([],0,e')) hr2 (w19r_3 bs a m k 0 e' rfl h1 h5) hnil
set_option maxRecDepth 100000 in
theorem conGetLR{bs:List AV}(a:Int)(hb:IsB8 bs)(hl:bs.length<281474976710656)(h:H):Con E0 20 [.lst 1 bs .open_, .int .i64 a] h (.tup [encL tyC (getL bs a).1, .int .i64 (getL bs a).2.1, .int .i64 (getL bs a).2.2]) h:=by
 obtain⟨n,k,e,hg⟩: ∃n k e,getA bs a=(n,k,e):=⟨_,_,_,rfl⟩
 have hcall:CallOK (X19w 20 40 [22,26,29,32,43,48] bs a n k e).E (X19w 20 40 [22,26,29,32,43,48] bs a n k e).calls:=callsBy_ok rfl fun c hc=>by
  obtain rfl:=List.mem_singleton.1 hc
  exact clAt_con fun m=>by have:=conGetR a hb hl m;rw[hg]at this;exact this
 have fin: ∀{K:Known} {v:AV} {p:List tyC.I×Int×Int},KOK E0 56 [] (bodyOf Tryd.f20) K→(runV (X19w 20 40 [22,26,29,32,43,48] bs a n k e) K Tryd.f20 (bodyOf Tryd.f20) [.lst 1 bs .open_, .int .i64 a]).run= .ok (.tup [v, .int .i64 p.2.1, .int .i64 p.2.2])→Le v (encL tyC p.1)→
   Con E0 20 [.lst 1 bs .open_, .int .i64 a] h (.tup [encL tyC p.1, .int .i64 p.2.1, .int .i64 p.2.2]) h:=fun hK hr hle=>
  Con.pureV (X:=X19w 20 40 [22,26,29,32,43,48] bs a n k e) g0 noG0 hcall (fn:=Tryd.f20) Tryd.func20 (c:=bodyOf Tryd.f20) rfl rfl (args:= [.lst 1 bs .open_, .int .i64 a]) hK (noRefsB hb.isB rfl) hr (Le.tup (.cons hle (.cons (Le.refl _) (.cons (Le.refl _) .nil)))) (by simp only[noRef,noRefs,encL_noRef];rfl) h
 have hnil:Le .nils (encL tyC []):=Le.nils nofun;unfold getL;rw[hg]
 dsimp only
 by_cases he:e=0
 case neg=>rw [if_pos he];exact fin (p:=([],0,e)) (kNo_ok (p:= [1,1,1,1,1,0,1])) (w20x_0 bs a n k e he) hnil
 subst he;rw[if_neg (by simp)]
 by_cases h1:n<0
 ·rw[if_pos (.inl h1)];exact fin (p:=([],0,6)) (kNo_ok (p:= [1,1,1,1,1,0,1])) (w20x_1 bs a n k 0 rfl h1) hnil
 by_cases h5:256<n
 ·rw[if_pos (.inr h5)];exact fin (p:=([],0,6)) (kNo_ok (p:= [1,1,1,1,1,0,1])) (w20x_2 bs a n k 0 rfl h1 h5) hnil
 rw[if_neg (by omega)];obtain⟨m,rfl⟩:=Int.eq_ofNat_of_zero_le (show 0≤n by omega);rw[Int.toNat_natCast];obtain⟨r1,r2⟩:=rounds20 hb hl (n:=m) (by omega) m k [] (by rw[List.length_nil];omega);obtain⟨L,a',e',hr⟩: ∃L a' e',readAll bs m k []=(L,a',e'):=⟨_,_,_,rfl⟩
 rw[hr]at r1 r2 ⊢
 dsimp only at r1 r2
 by_cases h0:e'=0
 ·subst h0
  have hk: ∀{l h'},Tri E0 56 [] (sub (bodyOf Tryd.f20) [1,1,1,1,1,0,1]) (frm (st20 bs k m [] 0)) (hm20 []) .normal (frm [(1, .int .i64 a'),(9,l)]) h'→KOK E0 56 [] (bodyOf Tryd.f20) (kAt [1,1,1,1,1,0,1] (st20 bs k m [] 0) (hm20 []) .normal [(1, .int .i64 a'),(9,l)] h'):=fun ht=>kAt_ok ht
  have hT:=hk (Tri.block (id:=0) (Tri.loop (r1 rfl)))
  cases L with
  |nil=>exact fin (p:=([],a',0)) hT (w20n_3 bs a m k 0 a' _ rfl h1 h5) hnil
  |cons d L=>exact fin (p:=(d::L,a',0)) hT (w20o_3 bs a m k 0 a' ((d::L).map tyC.elem) 0 _ rfl h1 h5) Le.open_
 ·have hr2:KOK E0 56 [] (bodyOf Tryd.f20) (kAt [1,1,1,1,1,0,1] (st20 bs k m [] 0) (hm20 []) .ret [(4, .nils),(5, .int .i64 0),(6, .int .i64 e')] []):=kAt_ok (Tri.block (id:=0) (Tri.loop (r2 h0)))
  have e1:(L,a',e')=(([],0,e'):List tyC.I×Int×Int):=by rw[←hr];exact readAll_err bs m k [] (by rw[hr];exact h0)|>.trans (by rw[hr])
  rw[e1];exact fin (p:=([],0,e')) hr2 (w20r_3 bs a m k 0 e' rfl h1 h5) hnil
end Go.Proofs.YthnajefdiljneaaDoor.AM
end
section
-- SQUEEZED
namespace Go.Proofs.YthnajefdiljneaaDoor.AM
open Go Go.Proofs Go.RowKit Go.Proofs.YthnajefdiljneaaDoor Go.Proofs.YthnajefdiljneaaDoorW.PrintWords
set_option linter.unusedVariables false
set_option linter.unusedSimpArgs false
theorem bytes_back(s:ByteArray):bytesOf (ofBytes s)=s:=by
 unfold bytesOf ofBytes;rw[List.map_map]
 have:(fun v:AV=>UInt8.ofNat v.toI.toNat) ∘ (fun c:UInt8=>AV.int .u8 (c.toNat:Int))=id:=by
  funext c
  show UInt8.ofNat ((c.toNat:Int)).toNat=c;rw[Int.toNat_natCast,UInt8.ofNat_toNat]
 rw[this,List.map_id]
theorem txB_eq(s:ByteArray):txB s=numB (s.size:Int)++ofBytes s:=rfl
theorem getT_enc{s:ByteArray}{m:Int}(hm:(s.size:Int)≤m)(pre t:List AV)(hb:IsB8 (pre++(txB s++t)))(hl:(pre++(txB s++t)).length<281474976710656):
  getT (pre++(txB s++t)) pre.length m=(s,((pre.length+(txB s).length:Nat):Int),0):=by
 have hlen:(pre++(txB s++t)).length=pre.length+((numB (s.size:Int)).length+(s.size+t.length)):=by
  simp only[txB_eq,List.length_append,ofBytes_len];omega
 have hi:PL.i64 (s.size:Int):=⟨by omega,by omega⟩
 have e:pre++(txB s++t)=pre++(numB (s.size:Int)++(ofBytes s++t)):=by rw[txB_eq,List.append_assoc]
 have hg:=getA_enc hi pre (ofBytes s++t) (by rw[←e];exact hb) (by rw[←e];exact hl)
 unfold getT;rw[←e]at hg;rw[hg]
 dsimp only
 rw[if_neg (by simp),if_neg (by omega),if_neg (by rw[hlen];omega)]
 have hd:(((pre++(txB s++t)).drop ((pre.length+(numB (s.size:Int)).length:Nat):Int).toNat).take ((s.size:Int)).toNat)=ofBytes s:=by
  rw[Int.toNat_natCast,Int.toNat_natCast,e,←List.append_assoc,←List.length_append,List.drop_left];have:s.size=(ofBytes s).length:=(ofBytes_len s).symm;rw[this,List.take_left]
 rw[hd,bytes_back]
 have:(txB s).length=(numB (s.size:Int)).length+s.size:=by rw[txB_eq,List.length_append,ofBytes_len]
 rw[this]
 congr 2
 push_cast;omega
theorem getC_raw{a0 a1:Int}{a2 a3 a4:ByteArray}(hc:tyC.okay (mkC a0 a1 a2 a3 a4))(hg:goodC (mkC a0 a1 a2 a3 a4)=true)(pre t:List AV)(hb:IsB8 (pre++(con5 a0 a1 a2 a3 a4++t)))(hl:(pre++(con5 a0 a1 a2 a3 a4++t)).length<281474976710656):
  getC (pre++(con5 a0 a1 a2 a3 a4++t)) pre.length=(mkC a0 a1 a2 a3 a4,((pre.length+(con5 a0 a1 a2 a3 a4).length:Nat):Int),0):=by
 have hf:form5 a0 a1 a2 a3 a4:=((goodC_sp _ hc).2.2 hg).2
 have h1:=i64_range hc.2.1
 have hk:PL.i64 a0:=by rcases hf with⟨h,_⟩|⟨h,_⟩|⟨h,_⟩|⟨h,_⟩<;>(constructor<;>omega)
 have hn:PL.i64 a1:=⟨h1.1,by omega⟩
 obtain⟨B,hB⟩: ∃B,con5 a0 a1 a2 a3 a4=numB a0++B∧B=(if a0=1 then numB a1 else if a0=2∨a0=3 then txB a2 else txB a2++(txB a3++txB a4)):=by
  refine⟨_,?_,rfl⟩;unfold con5;split
  ·rfl
  ·split<;>rfl
 have e:pre++(con5 a0 a1 a2 a3 a4++t)=pre++(numB a0++(B++t)):=by rw[hB.1,List.append_assoc]
 rw[e]at hb hl ⊢
 have hA:=getA_enc hk pre (B++t) hb hl
 have e2:pre++(numB a0++(B++t))=(pre++numB a0)++(B++t):=by rw[List.append_assoc]
 have hlB:(con5 a0 a1 a2 a3 a4).length=(numB a0).length+B.length:=by rw[hB.1,List.length_append]
 have hpl:(pre++numB a0).length=pre.length+(numB a0).length:=List.length_append;unfold getC;rw[hA]
 dsimp only
 rw[if_neg (by simp),hlB,←hpl]
 rw[e2]at hb hl ⊢
 generalize pre++numB a0=q at*
 unfold bodyC
 rcases hf with⟨rfl,rfl,rfl,rfl⟩|⟨rfl,rfl,rfl,rfl,hs⟩|⟨rfl,rfl,rfl,rfl,hs⟩|⟨h45,rfl,hs,ht,hu⟩
 ·rw[if_neg (by decide),if_pos rfl]
  rw[if_pos rfl]at hB
  rw[hB.2]at hb hl ⊢
  rw[getA_enc hn q t hb hl];unfold finC
  dsimp only
  rw[if_neg (by simp),if_pos hg,←hB.2]
  congr 2
  push_cast;omega
 ·rw[if_neg (by decide),if_neg (by decide),if_pos rfl]
  rw[if_neg (by decide),if_pos (.inl rfl)]at hB
  rw[hB.2]at hb hl ⊢
  rw[getT_enc (m:=64) (by omega) q t hb hl];unfold finC
  dsimp only
  rw[if_neg (by simp),if_pos hg,←hB.2]
  congr 2
  push_cast;omega
 ·rw[if_neg (by decide),if_neg (by decide),if_neg (by decide),if_pos rfl]
  rw[if_neg (by decide),if_pos (.inr rfl)]at hB
  rw[hB.2]at hb hl ⊢
  rw[getT_enc (m:=256) (by omega) q t hb hl];unfold finC
  dsimp only
  rw[if_neg (by simp),if_pos hg,←hB.2]
  congr 2
  push_cast;omega
 ·rw[if_neg (by omega),if_neg (by omega),if_neg (by omega),if_neg (by omega)]
  rw[if_neg (by omega),if_neg (by omega)]at hB
  have hBl:B.length=(txB a2).length+((txB a3).length+(txB a4).length):=by rw[hB.2,List.length_append,List.length_append]
  have x1:q++(B++t)=q++(txB a2++(txB a3++(txB a4++t))):=by rw[hB.2];simp only[List.append_assoc]
  have x2:q++(B++t)=(q++txB a2)++(txB a3++(txB a4++t)):=by rw[hB.2];simp only[List.append_assoc]
  have x3:q++(B++t)=(q++txB a2++txB a3)++(txB a4++t):=by rw[hB.2];simp only[List.append_assoc]
  have g1:=getT_enc (s:=a2) (m:=256) (by omega) q (txB a3++(txB a4++t)) (by rw[←x1];exact hb) (by rw[←x1];exact hl);have g2:=getT_enc (s:=a3) (m:=256) (by omega) (q++txB a2) (txB a4++t) (by rw[←x2];exact hb) (by rw[←x2];exact hl);have g3:=getT_enc (s:=a4) (m:=256) (by omega) (q++txB a2++txB a3) t (by rw[←x3];exact hb) (by rw[←x3];exact hl);rw[←x1]at g1;rw[←x2]at g2;rw[←x3]at g3;rw[List.length_append]at g2;rw[List.length_append,List.length_append]at g3;rw[g1]
  dsimp only
  rw[g2]
  dsimp only
  rw[g3];unfold finC
  dsimp only
  rw[if_neg (by simp),if_neg (by simp),if_neg (by simp),if_pos hg,hBl]
  congr 2
  push_cast;omega
theorem getC_enc{c:tyC.I}(hc:tyC.okay c)(hg:goodC c=true)(pre t:List AV)(hb:IsB8 (pre++(conB c++t)))(hl:(pre++(conB c++t)).length<281474976710656):
  getC (pre++(conB c++t)) pre.length=(c,((pre.length+(conB c).length:Nat):Int),0):=by
 obtain⟨a0,a1,a2,a3,a4⟩:=c;exact getC_raw hc hg pre t hb hl
theorem con5_isB8{a0 a1:Int}{a2 a3 a4:ByteArray}(hc:tyC.okay (mkC a0 a1 a2 a3 a4))(hg:goodC (mkC a0 a1 a2 a3 a4)=true):IsB8 (con5 a0 a1 a2 a3 a4):=by
 have hf:form5 a0 a1 a2 a3 a4:=((goodC_sp _ hc).2.2 hg).2
 have h1:=i64_range hc.2.1
 have ht: ∀{s:ByteArray},s.size≤256→IsB8 (txB s):=fun{s} hs=>(numB_isB8 (by omega) (by omega)).append (ofBytes_isB8 s)
 have z:(⟨#[]⟩:ByteArray).size≤256:=by decide
 unfold con5
 rcases hf with⟨rfl,rfl,rfl,rfl⟩|⟨rfl,rfl,rfl,rfl,hs⟩|⟨rfl,rfl,rfl,rfl,hs⟩|⟨h45,rfl,hs,h3,h4⟩
 ·rw[if_pos rfl];exact(numB_isB8 (by decide) (by decide)).append (numB_isB8 h1.1 h1.2)
 ·rw[if_neg (by decide),if_pos (.inl rfl)];exact(numB_isB8 (by decide) (by decide)).append (ht (by omega))
 ·rw[if_neg (by decide),if_pos (.inr rfl)];exact(numB_isB8 (by decide) (by decide)).append (ht (by omega))
 ·rw[if_neg (by omega),if_neg (by omega)];exact(numB_isB8 (by omega) (by omega)).append ((ht hs).append ((ht h3).append (ht h4)))
theorem conB_isB8{c:tyC.I}(hc:tyC.okay c)(hg:goodC c=true):IsB8 (conB c):=by
 obtain⟨a0,a1,a2,a3,a4⟩:=c;exact con5_isB8 hc hg
theorem flat_isB8: ∀(L:List tyC.I),(∀x,x∈L→tyC.okay x∧goodC x=true)→IsB8 (L.flatMap conB)
 | [],_=>fun y hy=>by simp at hy
 |c::L,h=>by
  rw[List.flatMap_cons];exact(conB_isB8 (h c List.mem_cons_self).1 (h c List.mem_cons_self).2).append (flat_isB8 L fun x hx=>h x (List.mem_cons_of_mem _ hx))
theorem readAll_enc: ∀(M L:List tyC.I) (pre t:List AV),(∀x,x∈M→tyC.okay x∧goodC x=true)→(L++M).Nodup→IsB8 (pre++(M.flatMap conB++t))→(pre++(M.flatMap conB++t)).length<281474976710656→
  readAll (pre++(M.flatMap conB++t)) M.length pre.length L=(L++M,((pre.length+(M.flatMap conB).length:Nat):Int),0)
 | [],L,pre,t,_,_,_,_=>by simp[readAll]
 |c::M,L,pre,t,hm,hnd,hb,hl=>by
  have e:pre++((c::M).flatMap conB++t)=pre++(conB c++(M.flatMap conB++t)):=by rw[List.flatMap_cons,List.append_assoc]
  have e2:pre++((c::M).flatMap conB++t)=(pre++conB c)++(M.flatMap conB++t):=by rw[List.flatMap_cons];simp only[List.append_assoc]
  have hc:=hm c List.mem_cons_self
  have hg:=getC_enc hc.1 hc.2 pre (M.flatMap conB++t) (by rw[←e];exact hb) (by rw[←e];exact hl)
  rw[←e]at hg
  have ih:=readAll_enc M (L++ [c]) (pre++conB c) t (fun x hx=>hm x (List.mem_cons_of_mem _ hx)) (by rw[List.append_assoc];exact hnd) (by rw[←e2];exact hb) (by rw[←e2];exact hl)
  rw[←e2]at ih;show(if(getC _ pre.length).2.2≠0 then _ else if(getC _ pre.length).1∈L then _ else readAll _ M.length (getC _ pre.length).2.1 (L++ [(getC _ pre.length).1]))=_;rw[hg]
  dsimp only
  have hcL:c∉L:=fun h=>(List.nodup_append.1 hnd).2.2 c h c List.mem_cons_self rfl
  rw[if_neg (by simp),if_neg hcL];rw[List.length_append]at ih;rw[ih,List.append_assoc,List.flatMap_cons,List.length_append]
  congr 2
  push_cast;omega
theorem poolE_ok{L:List tyC.I}(h:poolE L=0):L.length≤256∧(∀x,x∈L→goodC x=true)∧L.Nodup:=by
 unfold poolE at h;split at h
 ·cases h
 ·rename_i h256
  cases hf:firstI (fun j=>goodC (L.getD j tyC.zero)=false) L.length with
  |some i=>rw [hf]at h;cases h
  |none=>
   rw[hf]at h;refine⟨by omega,fun x hx=>?_,?_⟩
   ·obtain⟨i,hi,rfl⟩:=List.getElem_of_mem hx
    have:=firstI_none hf i hi;rw[List.getD_eq_getElem?_getD,List.getElem?_eq_getElem hi]at this
    cases hgg:goodC L[i]with
    |true=>rfl
    |false=>exact absurd hgg this
   ·cases hd:ask (dupC L L.length)with
    |true=>rw [hd]at h;cases h
    |false=>
     have hnd: ¬dupC L L.length:=fun hq=>by rw[ask_true hq]at hd;cases hd
     rw[List.nodup_iff_pairwise_ne,List.pairwise_iff_getElem];intro i j hi hj hij heq;refine hnd ⟨j,hj,i,hij,?_⟩;rw[List.getD_eq_getElem?_getD,List.getD_eq_getElem?_getD,List.getElem?_eq_getElem hi,List.getElem?_eq_getElem hj];exact heq
theorem upB_isB8{b:List AV}(hb:IsB8 b){L:List tyC.I}(hok: ∀x,x∈L→tyC.okay x)(h:poolE L=0):IsB8 (upB b L L.length):=by
 obtain⟨h1,h2,_⟩:=poolE_ok h;unfold upB;rw[List.take_length];exact(hb.append (numB_isB8 (by omega) (by rw[List.length_map];omega))).append (flat_isB8 L fun x hx=>⟨hok x hx,h2 x hx⟩)
theorem upB_top{b:List AV}{L:List tyC.I}(hok: ∀x,x∈L→tyC.okay x)(h:poolE L=0):(upB b L L.length).length≤b.length+300000:=by
 obtain⟨h1,h2,_⟩:=poolE_ok h
 have hm: ∀k,k<L.length→L.getD k tyC.zero∈L:=fun k hk=>by rw[List.getD_eq_getElem?_getD,List.getElem?_eq_getElem hk];exact List.getElem_mem hk
 have:=upB_len (b:=b) (L:=L) L.length (Nat.le_refl _) (fun k hk=>((goodC_sp _ (hok _ (hm k hk))).2.2 (h2 _ (hm k hk))).1);omega
theorem getL_enc{b:List AV}(hb:IsB8 b){L:List tyC.I}(hok: ∀x,x∈L→tyC.okay x)(h:poolE L=0)(hl:(upB b L L.length).length<281474976710656):
  getL (upB b L L.length) b.length=(L,(((upB b L L.length).length:Nat):Int),0):=by
 obtain⟨h1,h2,h3⟩:=poolE_ok h
 have hb8:=upB_isB8 hb hok h
 have e:upB b L L.length=b++(numB (((L.map tyC.elem).length:Nat):Int)++(L.flatMap conB++ [])):=by unfold upB;rw[List.take_length,List.append_nil,List.append_assoc]
 have e2:upB b L L.length=(b++numB (((L.map tyC.elem).length:Nat):Int))++(L.flatMap conB++ []):=by unfold upB;rw[List.take_length,List.append_nil]
 have hi:PL.i64 (((L.map tyC.elem).length:Nat):Int):=⟨by omega,by rw[List.length_map];omega⟩
 have hA:=getA_enc hi b (L.flatMap conB++ []) (by rw[←e];exact hb8) (by rw[←e];exact hl)
 rw[←e]at hA
 have hr:=readAll_enc L [] (b++numB (((L.map tyC.elem).length:Nat):Int)) [] (fun x hx=>⟨hok x hx,h2 x hx⟩) (by simpa using h3) (by rw[←e2];exact hb8) (by rw[←e2];exact hl)
 rw[←e2,List.length_append]at hr;unfold getL;rw[hA]
 dsimp only
 rw[if_neg (by simp),if_neg (by rw[List.length_map];omega),Int.toNat_natCast,List.length_map];rw[List.length_map]at hr;rw[hr]
 have hlen:(upB b L L.length).length=b.length+(numB ((L.length:Nat):Int)).length+(L.flatMap conB).length:=by rw[e2,List.append_nil,List.length_append,List.length_append,List.length_map]
 rw[hlen];rfl
end Go.Proofs.YthnajefdiljneaaDoor.AM
end
section
-- SQUEEZED
namespace Go.Proofs.YthnajefdiljneaaDoor.AM
open Go Go.Proofs Go.RowKit Go.Proofs.YthnajefdiljneaaDoor Go.Proofs.YthnajefdiljneaaDoorW.PrintWords
set_option linter.unusedVariables false
set_option linter.unusedSimpArgs false
theorem cmp_tyC(x y:tyC.I):(!(((tyC.elem x).cells.getD 0 undef).toI==((tyC.elem y).cells.getD 0 undef).toI&&(((tyC.elem x).cells.getD 1 undef).toI==((tyC.elem y).cells.getD 1 undef).toI&&(((tyC.elem x).cells.getD 2 undef).toS==((tyC.elem y).cells.getD 2 undef).toS&&(((tyC.elem x).cells.getD 3 undef).toS==((tyC.elem y).cells.getD 3 undef).toS&&(((tyC.elem x).cells.getD 4 undef).toS==((tyC.elem y).cells.getD 4 undef).toS&&true))))))=!ask (x=y):=by
 obtain⟨x0,x1,x2,x3,x4⟩:=x;obtain⟨y0,y1,y2,y3,y4⟩:=y
 congr 1
 exact ask_iff (raw_C x0 x1 x2 x3 x4 y0 y1 y2 y3 y4)
def st21(L M:List tyC.I)(j:Nat):List (Nat×AV):= [(0,encL tyC L),(1,encL tyC M),(5, .int .i64 j)]
theorem p21(l m:List AV)(i:Int):obsK (XN 21 [10,14,25]) (fun _=>none) 26 (sub (bodyOf Tryd.f21) [1,1,0,1,0,0]) [1,1,0,1,0,0] (frm [(0, .lst 5 l .open_),(1, .lst 5 m .open_),(5, .int .i64 i)]) [] [0,1,4,5]=
 (T.br (decide (i<(↑l.length:Int)))
  (T.br (decide ((0:Int)≤i)&&decide (i<(↑l.length:Int))&&
 fitsC Tryd.prog (24:Nat) (l.getD i.toNat undef))
   (T.br (decide ((0:Int)≤i)&&decide (i<(↑m.length:Int))&&
 fitsC Tryd.prog (24:Nat) (m.getD i.toNat undef))
       (T.br (!(((l.getD i.toNat undef).cells.getD (0:Nat) undef).toI==
   ((m.getD i.toNat undef).cells.getD (0:Nat) undef).toI&&
  (((l.getD i.toNat undef).cells.getD (1:Nat) undef).toI==
    ((m.getD i.toNat undef).cells.getD (1:Nat) undef).toI&&
    (((l.getD i.toNat undef).cells.getD (2:Nat) undef).toS==
      ((m.getD i.toNat undef).cells.getD (2:Nat) undef).toS&&
      (((l.getD i.toNat undef).cells.getD (3:Nat) undef).toS==
        ((m.getD i.toNat undef).cells.getD (3:Nat) undef).toS&&
        (((l.getD i.toNat undef).cells.getD (4:Nat) undef).toS==
          ((m.getD i.toNat undef).cells.getD (4:Nat) undef).toS&&
          true))))))
        (T.leaf ((X.ret,[AV.lst 5 l Tl.open_,AV.lst 5 m Tl.open_,AV.bool false,AV.int IntKind.i64 i],[])))
        (T.leaf ((X.normal,
 [AV.lst 5 l Tl.open_,AV.lst 5 m Tl.open_,AV.fsl 0 [],AV.int IntKind.i64 (IntKind.i64.wrap (i+1))],[]))))
    T.fail)
   T.fail)
  (T.leaf ((X.exit 0,[AV.lst 5 l Tl.open_,AV.lst 5 m Tl.open_,AV.fsl 0 [],AV.int IntKind.i64 i],[])))):=by kernel_rfl
theorem p21r(L M:List tyC.I):runV (XN 21 [10,14,25]) (kAt [1,1,0,1] (st21 L M 0) [] .ret [(4, .bool false)] []) Tryd.f21 (bodyOf Tryd.f21) [encL tyC L,encL tyC M]=
 (T.br (!decide ((↑(List.map tyC.elem L).length:Int)=(↑(List.map tyC.elem M).length:Int)))
  (T.leaf (AV.bool false))
  (T.br (askS
 [AV.lst (5:Nat) (List.map tyC.elem L) Tl.open_,AV.lst (5:Nat) (List.map tyC.elem M) Tl.open_,
  AV.int IntKind.i64 (0:Int)]
 [AV.lst (5:Nat) (List.map tyC.elem L) Tl.open_,AV.lst (5:Nat) (List.map tyC.elem M) Tl.open_,
  AV.int IntKind.i64 (↑(0:Nat):Int)]
 [] [])
     (T.leaf (AV.bool false))
     T.fail)):=by kernel_rfl
theorem p21n(L M:List tyC.I):runV (XN 21 [10,14,25]) (kAt [1,1,0,1] (st21 L M 0) [] .normal (st21 L M L.length) []) Tryd.f21 (bodyOf Tryd.f21) [encL tyC L,encL tyC M]=
 (T.br (!decide ((↑(List.map tyC.elem L).length:Int)=(↑(List.map tyC.elem M).length:Int)))
  (T.leaf (AV.bool false))
  (T.br (askS
 [AV.lst (5:Nat) (List.map tyC.elem L) Tl.open_,AV.lst (5:Nat) (List.map tyC.elem M) Tl.open_,
  AV.int IntKind.i64 (0:Int)]
 [AV.lst (5:Nat) (List.map tyC.elem L) Tl.open_,AV.lst (5:Nat) (List.map tyC.elem M) Tl.open_,
  AV.int IntKind.i64 (↑(0:Nat):Int)]
 [] [])
     (T.leaf (AV.bool true))
     T.fail)):=by kernel_rfl
theorem p21x(L M:List tyC.I):runV (XN 21 [10,14,25]) (kNo [1,1,0,1]) Tryd.f21 (bodyOf Tryd.f21) [encL tyC L,encL tyC M]=
 (T.br (!decide ((↑(List.map tyC.elem L).length:Int)=(↑(List.map tyC.elem M).length:Int)))
  (T.leaf (AV.bool false))
  T.fail):=by kernel_rfl
theorem go21(L M:List tyC.I)(hlen:M.length=L.length)(hl:L.length<1000000000000000)(j:Nat)(hj:j<L.length):
  (L.getD j tyC.zero=M.getD j tyC.zero→Tri E0 26 [] (sub (bodyOf Tryd.f21) [1,1,0,1,0,0]) (frm (st21 L M j)) [] .normal (frm (st21 L M (j+1))) [])∧
  (L.getD j tyC.zero≠M.getD j tyC.zero→Tri E0 26 [] (sub (bodyOf Tryd.f21) [1,1,0,1,0,0]) (frm (st21 L M j)) [] .ret (frm [(4, .bool false)]) []):=by
 have ht:=p21 (L.map tyC.elem) (M.map tyC.elem) j
 have hjm:j<M.length:=by omega
 have f0:fitsC Tryd.prog 24 (tyC.elem tyC.zero)=true:=by kernel_rfl
 rw[idx_ok hj f0,idx_ok hjm f0,lt_ok hj,Int.toNat_natCast,getD_elem hj,getD_elem hjm,cmp_tyC,wrap_next (by omega)]at ht;refine⟨fun he=>?_,fun he=>?_⟩
 ·rw[ask_true he]at ht
  exact Tri.seen (X:=XN 21 [10,14,25]) g0 (noCalls fun _ _ _=>rfl) KOK.none rfl (congrArg T.run ht) (by
   intro q hq;simp only[st21,List.mem_cons,List.not_mem_nil,or_false]at hq
   rcases hq with rfl|rfl|rfl<;>rfl)
 ·rw[ask_false he]at ht
  exact Tri.seen (X:=XN 21 [10,14,25]) g0 (noCalls fun _ _ _=>rfl) KOK.none rfl (congrArg T.run ht) (by
   intro q hq;simp only[List.mem_cons,List.not_mem_nil,or_false]at hq
   rcases hq with rfl;rfl)
theorem out21(L M:List tyC.I):Tri E0 26 [] (sub (bodyOf Tryd.f21) [1,1,0,1,0,0]) (frm (st21 L M L.length)) [] (.exit 0) (frm (st21 L M L.length)) []:=by
 have ht:=p21 (L.map tyC.elem) (M.map tyC.elem) L.length
 rw[lt_no]at ht
 exact Tri.seen (X:=XN 21 [10,14,25]) g0 (noCalls fun _ _ _=>rfl) KOK.none rfl (congrArg T.run ht) (by
  intro q hq;simp only[st21,List.mem_cons,List.not_mem_nil,or_false]at hq
  rcases hq with rfl|rfl|rfl<;>rfl)
theorem con21(L M:List tyC.I)(hl:L.length<1000000000000000)(h:H):Con E0 21 [encL tyC L,encL tyC M] h (.bool (ask (L=M))) h:=by
 have hn:noRefs [encL tyC L,encL tyC M]=true:=by simp only[noRefs,encL_noRef,Bool.and_true]
 have fin: ∀{K:Known} {v:AV},KOK E0 26 [] (bodyOf Tryd.f21) K→(runV (XN 21 [10,14,25]) K Tryd.f21 (bodyOf Tryd.f21) [encL tyC L,encL tyC M]).run= .ok v→v= .bool (ask (L=M))→Con E0 21 [encL tyC L,encL tyC M] h (.bool (ask (L=M))) h:=fun hk hr hv=>
  Con.pureV (X:=XN 21 [10,14,25]) g0 noG0 (noCalls fun _ _ _=>rfl) (fn:=Tryd.f21) Tryd.func21 (c:=bodyOf Tryd.f21) rfl rfl (args:= [encL tyC L,encL tyC M]) hk hn hr (hv▸Le.refl _) rfl h
 by_cases hm:L.length=M.length
 ·have hd:(!decide ((((L.map tyC.elem).length:Nat):Int)=(((M.map tyC.elem).length:Nat):Int)))=false:=by simp;omega
  obtain⟨r1,r2⟩:=eq_rounds (L:=L) (M:=M) (z:=tyC.zero) (st:=st21 L M) (rt:= [(4, .bool false)]) hm.symm (fun j hj=>(go21 L M hm.symm hl j hj).1) (fun j hj=>(go21 L M hm.symm hl j hj).2) (out21 L M)
  by_cases he:L=M
  ·have hk:KOK E0 26 [] (bodyOf Tryd.f21) (kAt [1,1,0,1] (st21 L M 0) [] .normal (st21 L M L.length) []):=kAt_ok (Tri.block (id:=0) (Tri.loop (r1 he)))
   exact fin hk ((congrArg T.run (p21n L M)).trans (bF hd (bS rfl))) (by rw[ask_true he])
  ·have hk:KOK E0 26 [] (bodyOf Tryd.f21) (kAt [1,1,0,1] (st21 L M 0) [] .ret [(4, .bool false)] []):=kAt_ok (Tri.block (id:=0) (Tri.loop (r2 he)))
   exact fin hk ((congrArg T.run (p21r L M)).trans (bF hd (bS rfl))) (by rw[ask_false he])
 ·have hd:(!decide ((((L.map tyC.elem).length:Nat):Int)=(((M.map tyC.elem).length:Nat):Int)))=true:=by simp;omega
  exact fin (kNo_ok (p:= [1,1,0,1])) ((congrArg T.run (p21x L M)).trans (bT hd rfl)) (by rw[ask_false (fun h=>hm (congrArg _ h))])
end Go.Proofs.YthnajefdiljneaaDoor.AM
end
