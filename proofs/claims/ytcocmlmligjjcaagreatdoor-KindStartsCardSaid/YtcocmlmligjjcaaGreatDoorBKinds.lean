-- SQUEEZED
/- Kinds of instructions, and whether code can be, by the program and by the document, as contracts of the symbolic machine. -/
import Derived.Test.YtcocmlmligjjcaaGreatDoorS26
import Derived.Test.YtcocmlmligjjcaaGreatDoorProg
namespace Go.Proofs.YtcocmlmligjjcaaGreatDoor.AM
open Go Go.Proofs Go.RowKit
set_option linter.unusedVariables false
set_option linter.unusedSimpArgs false
abbrev tyI:Ty:=(.pair (.int .i64) (.int .i64))
abbrev tyH:Ty:=(.pair (.int .i64) (.pair (.int .i64) (.pair (.int .i64) (.str))))
abbrev tyS:Ty:=(.str)
def formsL:List AV:= [.str ⟨#[110,111,112]⟩, .int .i64 0, .str ⟨#[105,110,116]⟩, .int .i64 1, .str ⟨#[115,116,114]⟩, .int .i64 2, .str ⟨#[116,114,117,101]⟩, .int .i64 0, .str ⟨#[102,97,108,115,101]⟩, .int .i64 0, .str ⟨#[110,117,108,108]⟩, .int .i64 0, .str ⟨#[108,111,97,100]⟩, .int .i64 6, .str ⟨#[115,116,111,114,101]⟩, .int .i64 6, .str ⟨#[112,111,112]⟩, .int .i64 0, .str ⟨#[100,117,112]⟩, .int .i64 0, .str ⟨#[97,100,100]⟩, .int .i64 0, .str ⟨#[115,117,98]⟩, .int .i64 0, .str ⟨#[109,117,108]⟩, .int .i64 0, .str ⟨#[100,105,118]⟩, .int .i64 0, .str ⟨#[114,101,109]⟩, .int .i64 0, .str ⟨#[110,101,103]⟩, .int .i64 0, .str ⟨#[110,111,116]⟩, .int .i64 0, .str ⟨#[108,116]⟩, .int .i64 0, .str ⟨#[108,101]⟩, .int .i64 0, .str ⟨#[101,113,105]⟩, .int .i64 0, .str ⟨#[101,113,98]⟩, .int .i64 0, .str ⟨#[101,113,114]⟩, .int .i64 0, .str ⟨#[106,117,109,112]⟩, .int .i64 7, .str ⟨#[106,117,109,112,116]⟩, .int .i64 7, .str ⟨#[106,117,109,112,102]⟩, .int .i64 7, .str ⟨#[110,101,119]⟩, .int .i64 3, .str ⟨#[103,101,116,102]⟩, .int .i64 4, .str ⟨#[112,117,116,102]⟩, .int .i64 4, .str ⟨#[97,114,114]⟩, .int .i64 3, .str ⟨#[97,108,111,97,100]⟩, .int .i64 0, .str ⟨#[97,115,116,111,114,101]⟩, .int .i64 0, .str ⟨#[97,108,101,110]⟩, .int .i64 0, .str ⟨#[99,97,108,108]⟩, .int .i64 5, .str ⟨#[114,101,116]⟩, .int .i64 0, .str ⟨#[114,101,116,118]⟩, .int .i64 0, .str ⟨#[116,104,114,111,119]⟩, .int .i64 0, .str ⟨#[101,110,116,101,114]⟩, .int .i64 0, .str ⟨#[101,120,105,116]⟩, .int .i64 0, .str ⟨#[99,97,115,116]⟩, .int .i64 3, .str ⟨#[105,115]⟩, .int .i64 3, .str ⟨#[112,114,105,110,116]⟩, .int .i64 0, .str ⟨#[114,101,97,100]⟩, .int .i64 0, .str ⟨#[106,111,105,110]⟩, .int .i64 0, .str ⟨#[115,108,101,110]⟩, .int .i64 0, .str ⟨#[115,112,97,119,110]⟩, .int .i64 0, .str ⟨#[111,108,100]⟩, .int .i64 4]
noncomputable def E0:Env:={P:=Tryz.prog,C:=fun _ _=>none,G:=fun g=>if g=0 then some formsL else none,M:=1000,L:=fun _ _=>false,LC:=fun _=>false,S:=fun t=>!Tryz.prog.stoodInHeld t}
def kNo(p:List Nat):Known:=fun q=>if q=p then some (fun _ _=> .fail)else none
noncomputable def bodyOf(fn:Func):Code:=(fn.body).getD .skip
noncomputable def XN(f:FuncId)(sp:List Nat):SX:={E:=E0,f:=f,con:=fun _=>false,split:=fun d=>sp.contains d,call:=fun _ _ _=> .fail}
noncomputable def XC(f:FuncId)(sp:List Nat)(cs:List Cl):SX:={E:=E0,f:=f,con:=fun _=>false,split:=fun d=>sp.contains d,call:=callsBy cs}
theorem g0:Ground E0:=⟨fun t h=>by simpa [E0]using h,cok_none (fun _ _=>rfl),bok_none (fun _=>rfl),by kernel_rfl⟩
theorem noRefForms:noRefs formsL=true:=by kernel_rfl
theorem noG0: ∀i cs,E0.G i=some cs→noRefs cs=true:=by
 intro i cs h;simp only[E0]at h;split at h
 ·cases h;exact noRefForms
 ·cases h
theorem kNo_ok{E:Env}{N:Nat}{hb:H}{b:Code}{p:List Nat}:KOK E N hb b (kNo p):=by
 intro q k hk τ h y τ' h1 hr;simp only[kNo]at hk;split at hk
 ·cases hk;cases hr
 ·cases hk
end Go.Proofs.YtcocmlmligjjcaaGreatDoor.AM
