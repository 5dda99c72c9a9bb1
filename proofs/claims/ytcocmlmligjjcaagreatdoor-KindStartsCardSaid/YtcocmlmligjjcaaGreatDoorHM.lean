-- SQUEEZED
/- Maps that a call itself makes, told by a list of pairs: looked into, written, counted; whatever the types of keys and elements. -/
import Derived.Test.YtcocmlmligjjcaaGreatDoorHW
import Derived.Maps.Own
import Derived.MapKept
set_option linter.unusedVariables false
set_option linter.unusedSectionVars false
set_option linter.unusedSimpArgs false
namespace Go.Proofs.HW
open Go.RowKit Go.MapKept Go.ChangeMaps
section
variable {κ ν:Type} [DecidableEq κ]
def mpos(k:κ):List κ→List MapEntry→Nat→Option (Nat×Value)
 |k'::ks,e::l,i=>if k=k' then some (i,e.val)else mpos k ks l (i+1)
 |_,_,_=>none
end
structure KeyEnc (P:Program) (kt:TypeId) {κ:Type} [DecidableEq κ] (enc:κ→Value):Prop where
 check: ∀(e:Bool) (k:κ) (w:World),(Instr.checkKey e 10000 kt (enc k)).run P w= .ok () w
 find: ∀(k:κ) (l:List MapEntry) (ks:List κ) (w:World),l.map MapEntry.key=ks.map enc→(Instr.findKey kt (enc k) l).run P w= .ok (mpos k ks l 0) w
 stays: ∀(k:κ) (w:World),(Instr.keyThatStays (enc k) (enc k)).run P w= .ok (enc k) w
section
variable {κ ν:Type} [DecidableEq κ] {ek:κ→Value} {ev:ν→Value} {w:World} {b:Nat} {m:List (κ×ν)} {P:Program} {t kt et:TypeId}
end
section
variable {P:Program} {ops:Array Oper} {rest:List Oper} {o:Oper} {a:Act} {Q:Exit→Act→World→Prop}
variable {κ ν:Type} [DecidableEq κ] {ek:κ→Value} {ev:ν→Value} {w:World} {b:Nat} {m:List (κ×ν)} {t kt et:TypeId}
end
end Go.Proofs.HW
