-- SQUEEZED
/- Signatures: by the contracts of the print and the plain laws. -/
import Derived.Test.YtcocmlmligjjcaaGreatDoorBKinds
import Derived.Test.YtcocmlmligjjcaaGreatDoorQ1
import Derived.Test.YtcocmlmligjjcaaGreatDoorQ7
import Derived.Test.YtcocmlmligjjcaaGreatDoorQ8
import Derived.Test.YtcocmlmligjjcaaGreatDoorQP2e
namespace Go.Proofs.YtcocmlmligjjcaaGreatDoor.AM
open Go Go.Proofs Go.RowKit
open Go.Proofs.YtcocmlmligjjcaaGreatDoor
set_option linter.unusedVariables false
set_option linter.unusedSimpArgs false
def tl(s:ByteArray):List UInt8:=s.data.toList
theorem mk_tl(s:ByteArray):Go.Proofs.PL.mk (tl s)=s:=by cases s;simp[Go.Proofs.PL.mk,tl]
theorem tl_len(s:ByteArray):(tl s).length=s.size:=rfl
open Go.Proofs.YtcocmlmligjjcaaGreatDoorW.PrintWords in
theorem kd_texts{F:Area}{ρ:Rho}{w:World}{base:Nat}{v:Value}{l:List ByteArray}(hF: ∀B off,base≤B→ ¬F B off)(h:Kd.R Kd.string 9 w base (fun _=>True) v l):CR F ρ w v (.lst 1 (l.map AV.str) .open_):=by
 obtain⟨_,inner,⟨h1,h2⟩,h3,h4⟩:=h;have hsz:(Kd.string).sz=1:=rfl
 refine CR.texts hF ?_
 rcases h2 with⟨rfl,h0⟩|⟨g,cap,cur,rfl,hg,hb,hn,_,hc,hi⟩
 ·exact .inl ⟨rfl,List.eq_nil_of_length_eq_zero h0⟩
 ·refine .inr ⟨g,cap,cur,_,_,rfl,hg,hb,hn,by rw[hc,hsz,Nat.mul_one];exact Nat.le_refl _,fun j s hj=>?_⟩
  have hm:(inner.drop (j*1)).take 1= [.string s]:=h4 j s hj
  have hl:=lt_of_getl hj
  rw[←hi,Nat.mul_one]at hm
  have:(((cur.toList.take (l.length*1)).drop j).take 1)[0]?=some (.string s):=by
   have hm':=congrArg (fun q:List Value=>q[0]?) hm;exact hm'
  rw[Nat.mul_one]at this;simp only[List.getElem?_take,List.getElem?_drop]at this;rw[if_pos (by omega),if_pos (by omega)]at this
  simpa using this
def Sp(s:ByteArray)(r:ByteArray×List ByteArray×Int):Prop:=(∀h,Con E0 108 [.str s] h (.tup [.str r.1, .lst 1 (r.2.1.map AV.str) .open_, .int .i64 r.2.2]) h)∧(∀h,Con E0 110 [.str s] h (.tup [.str r.1, .lst 1 (r.2.1.map AV.str) .open_, .int .i64 r.2.2]) h)∧r.2.1.length≤6
set_option maxRecDepth 100000 in
theorem split_ex(s:ByteArray)(hs:s.size≤140737488351232): ∃r,Sp s r:=by
 obtain⟨us,g,e,⟨k1,h1⟩,⟨k2,h2⟩,hd⟩:=Go.Proofs.PL.split_both (tl s) (by rw[tl_len];omega)
 have e1:=h1 k1 (Nat.le_refl _)
 have e2:=h2 k2 (Nat.le_refl _)
 simp only[mk_tl]at e1 e2
 have row: ∀{F:Area} {ρ:Rho} {w:World} {v1:Value},CR F ρ w v1 (.lst 1 ((Go.Proofs.PL.mks us).map AV.str) .open_)→CR F ρ w (.tuple #[.string (Go.Proofs.PL.mk g),v1, .int .i64 e]) (.tup [.str (Go.Proofs.PL.mk g), .lst 1 ((Go.Proofs.PL.mks us).map AV.str) .open_, .int .i64 e]):=
  fun h=> .tup_of (.cons (.str _) (.cons h (.cons (.int _ _) .nil)))
 refine⟨(Go.Proofs.PL.mk g,Go.Proofs.PL.mks us,e),fun h=>?_,fun h=>?_,?_⟩
 ·exact Con.of_made (us:= [.string s]) (.cons (Pin.str s) .nil) (enters_of Tryz.func108 (by kernel_rfl) rfl _)
   (fun w=>(Q.desc_Split.calls k1 s _ _ e w e1).mono fun x w' ⟨v1,a,b,c⟩=>⟨_,a,c,fun F ρ hF=>row (kd_texts hF b)⟩) h
 ·exact Con.of_made (us:= [.string s]) (.cons (Pin.str s) .nil) (enters_of Tryz.func110 (by kernel_rfl) rfl _)
   (fun w=>(Q.hornbookref02_Split.calls k2 s _ _ e w e2).mono fun x w' ⟨v1,a,b,c⟩=>⟨_,a,c,fun F ρ hF=>row (kd_texts hF b)⟩) h
 ·have hl:(Go.Proofs.PL.mks us).length=us.length:=by simp[Go.Proofs.PL.mks]
  show(Go.Proofs.PL.mks us).length≤6;rw[hl]
  rcases hd with⟨_,hs⟩|⟨_,_,rfl,_⟩
  ·rcases Nat.lt_or_ge 6 us.length with h|h
   ·unfold Go.Proofs.PL.sigB at hs
    rw[if_pos h]at hs
    have h9:=congrArg Prod.snd hs
    simp at h9
   ·exact h
  ·simp
def okS(args:List AV):Prop:= ∃s:ByteArray,args= [.str s]∧s.size≤140737488351232
noncomputable def splitOf(s:ByteArray):ByteArray×List ByteArray×Int:=by
 classical exact if h: ∃r,Sp s r then h.choose else(.empty,[],0)
theorem splitOf_sp(s:ByteArray)(hs:s.size≤140737488351232):Sp s (splitOf s):=by
 unfold splitOf;rw[dif_pos (split_ex s hs)];exact(split_ex s hs).choose_spec
noncomputable def sp1:List AV→ByteArray
 | [.str s]=>(splitOf s).1
 |_=> .empty
noncomputable def sp2:List AV→List AV
 | [.str s]=>(splitOf s).2.1.map AV.str
 |_=> []
noncomputable def sp3:List AV→Int
 | [.str s]=>(splitOf s).2.2
 |_=>0
noncomputable def clS(f:FuncId):Cl:=⟨f,okS,fun args=> .tup [.str (sp1 args), .lst 1 (sp2 args) .open_, .int .i64 (sp3 args)]⟩
theorem clS70: ∀args,(clS 108).ok args→ ∀h,Con E0 (clS 108).f args h ((clS 108).res args) h:=by
 rintro args ⟨s,rfl,hs⟩ h;exact(splitOf_sp s hs).1 h
theorem clS72: ∀args,(clS 110).ok args→ ∀h,Con E0 (clS 110).f args h ((clS 110).res args) h:=by
 rintro args ⟨s,rfl,hs⟩ h;exact(splitOf_sp s hs).2.1 h
theorem sp2_len(s:ByteArray)(hs:s.size≤140737488351232):(sp2 [.str s]).length≤6:=by
 show((splitOf s).2.1.map AV.str).length≤6;rw[List.length_map];exact(splitOf_sp s hs).2.2
end Go.Proofs.YtcocmlmligjjcaaGreatDoor.AM
