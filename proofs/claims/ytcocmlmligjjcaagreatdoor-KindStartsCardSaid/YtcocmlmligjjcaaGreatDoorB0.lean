-- SQUEEZED
/- The contract of strings.IndexByte. -/
import Derived.Test.YtcocmlmligjjcaaGreatDoorShelf
import Derived.Test.YtcocmlmligjjcaaGreatDoorA20
import Derived.Test.YtcocmlmligjjcaaGreatDoorProg
namespace Go.Proofs.YtcocmlmligjjcaaGreatDoor.AM
open Go.Proofs Go.RowKit
set_option linter.unusedVariables false
theorem indexByte(s:ByteArray)(c:Int)(w:World):Calls Tryz.prog 260 #[.string s, .int .u8 c] w fun e w'=>e= .returned (.int .i64 (Lib.indexByte s.data.toList c.toNat.toUInt8))∧w'=w:=Tryz.strings_IndexByte s c w
def C0:FuncId→List AV→Option AV:=fun f args=>if f=260 then(match args with| [.str s, .int .u8 c]=>some (.int .i64 (Lib.indexByte s.data.toList c.toNat.toUInt8))|_=>none)else none
theorem cok0{E:Env}(hP:E.P=Tryz.prog)(hC:E.C=C0):COK E:=by
 intro f args h r h' hc A ρ w vs hr hargs;rw[hC]at hc;simp only[C0]at hc
 by_cases hf:f=260
 ·subst hf
  rw[if_pos rfl]at hc;split at hc
  ·rename_i r' hr'
   split at hr'
   ·rename_i s c
    cases hr';cases hc;obtain⟨v0,hv0,h0⟩:=hargs.get (j:=0) (y:= .str s) rfl;obtain⟨v1,hv1,h1⟩:=hargs.get (j:=1) (y:= .int .u8 c) rfl;have hl:vs.toList.length=2:=hargs.1
    obtain rfl:vs= #[v0,v1]:=by
     obtain⟨l⟩:=vs
     match l,hl with
     | [a,b],_=>simp at hv0 hv1;subst hv0;subst hv1;rfl
    cases h0;cases h1;refine⟨fun W=>by rw[hP];exact enters_of Tryz.func260 (by kernel_rfl) rfl _ _,?_⟩;rw[hP]
    refine(indexByte s c w).mono fun e w' ⟨he,hw⟩=>?_
    subst hw;exact⟨_,ρ,he,Ext.refl _ _ _,hr, .int _ _⟩
   ·cases hr'
  ·cases hc
 ·rw[if_neg hf]at hc
  cases hc
def val:R (AV×H)→R AV
 | .ok (v,_)=> .ok v
 | .no s=> .no s
end Go.Proofs.YtcocmlmligjjcaaGreatDoor.AM
