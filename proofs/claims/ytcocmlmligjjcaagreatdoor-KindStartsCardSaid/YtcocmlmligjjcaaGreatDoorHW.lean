-- SQUEEZED
/- Small words that the hand texts share: rows of strings as the shelf's contracts ask for them. -/
import Derived.Test.YtcocmlmligjjcaaGreatDoorWWords
set_option linter.unusedVariables false
namespace Go.Proofs.HW
open Go.Proofs.YtcocmlmligjjcaaGreatDoorW.PrintWords
theorem spot_none{w:World}{a:Addr}{v:Value}(h:w.cell? a=some v):a.spot=none:=by
 unfold World.cell? at h;split at h
 ·split at h
  ·cases h
  ·rename_i hs;cases e:a.spot with
   |none=>rfl
   |some x=>rw [e]at hs;simp at hs
 ·cases h
theorem cells_of_C{α:Type}{enc:α→Value}{h1: ∀x,(enc x).oneCell'=true}{w:World}{A:Option Addr}{n:Nat}{xs:List α}
  (h:(Kd.scalar enc h1).C w A n xs) (hn:0<n):
  ∃b o,A=some ⟨b,o,none⟩∧b<w.heap.size∧ ∀(j:Nat) x,xs[j]?=some x→w.cell? ⟨b,o+j,none⟩=some (enc x):=by
 obtain⟨hl,_,hc⟩:=h;obtain⟨ad,rfl,hcell⟩:=hc hn
 have hx: ∀(j:Nat) x,xs[j]?=some x→w.cell? (ad.add j)=some (enc x):=by
  intro j x hj;obtain⟨c,hcl,hk,hu⟩:=hcell j x hj;have hk':c= [enc x]:=hk;subst hk';have:=hu 0 _ rfl
  simpa [Kd.scalar]using this
 have h0:0<xs.length:=by omega
 have hz:=hx 0 _ (List.getElem?_eq_getElem h0)
 have ha0:ad.add 0=ad:=by simp[Addr.add]
 rw[ha0]at hz
 have hs:=spot_none hz
 obtain⟨b,o,s⟩:=ad;obtain rfl:s=none:=hs;refine⟨b,o,rfl,World.block_lt_of_cell? w _ hz,fun j x hj=>?_⟩;have:=hx j x hj;unfold Addr.add at this;split at this
 ·rename_i e;subst e;simpa using this
 ·exact this
section
variable {P:Program} {ops:Array Oper} {rest:List Oper} {o:Oper} {a:Act} {Q:Exit→Act→World→Prop} {W:World}
theorem gate_callee{f:FuncId}{as:Array Operand}{ts:Array TypeId}(_ho:o.op= .call {callee:= .value (.func f),args:=as,argTypes:=ts})(h:wpList P ops Q (o::rest) a W):wpList P ops Q (o::rest) a W:=h
theorem gate_builtin{b:Builtin}{xs:Array Operand}{ts:Array TypeId}(_ho:o.op= .call {callee:= .builtin b,args:=xs,argTypes:=ts})(h:wpList P ops Q (o::rest) a W):wpList P ops Q (o::rest) a W:=h
end
end Go.Proofs.HW
