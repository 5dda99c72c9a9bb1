-- SQUEEZED
import Derived.Test.YtcocmlmligjjcaaGreatDoorBSame
namespace Go.Proofs.YtcocmlmligjjcaaGreatDoor.AM
open Go Go.Proofs Go.RowKit
set_option linter.unusedVariables false
set_option linter.unusedSimpArgs false
theorem clSm44: ∀args,clSm.ok args→ ∀h,Con E0 clSm.f args h (clSm.res args) h:=by
 rintro args ⟨L,M,rfl,hL,hM⟩ h
 have ok:CallOK (XC 44 [10] [clLL 111 tyS]).E (XC 44 [10] [clLL 111 tyS]).calls:=callsBy_ok rfl fun c hc=>by
  obtain rfl:=List.mem_singleton.1 hc;exact clLL_con con111
 have hr:(runV (XC 44 [10] [clLL 111 tyS]) (fun _=>none) Tryz.f44 (bodyOf Tryz.f44) [.agg [encL tyS L,encL tyS M], .agg [encL tyS L,encL tyS M]]).run= .ok (.bool true):=by
  refine(congrArg T.run (q44 L M)).trans (bA (bT (ask_true rfl) (bA ?_ ⟨M,M,rfl,hM⟩)) ⟨L,L,rfl,hL⟩);show R.ok (AV.bool (ask _))=_;rw[ask_true rfl]
 exact Con.pureV (X:=XC 44 [10] [clLL 111 tyS]) g0 noG0 ok (fn:=Tryz.f44) Tryz.func44 (c:=bodyOf Tryz.f44) rfl rfl (args:= [.agg [encL tyS L,encL tyS M], .agg [encL tyS L,encL tyS M]]) KOK.none (by simp only[noRefs,noRef,encL_noRef,Bool.and_true]) hr (Le.refl _) rfl h
noncomputable def cs7:List Cl:= [clTk,clSm,clK 46]
noncomputable def E7:Env:={E0 with C:=lightC cs7,LC:=fun f=> [44,45,46].contains f}
noncomputable def X7:SX:={E:=E7,f:=7,con:=fun _=>false,split:=fun d=> [31,36].contains d,call:=callsBy (clSt 42::clSt 43::cs7),lit:=fun f=> [44,45,46].contains f}
theorem cs7_ok(h46: ∀h,Con E0 46 [] h (.bool true) h): ∀c,c∈cs7→ ∀args,c.ok args→ ∀h,Con E0 c.f args h (c.res args) h:=fun c hc=>by
 rcases List.mem_cons.1 hc with rfl|hc
 ·exact clTk45
 rcases List.mem_cons.1 hc with rfl|hc
 ·exact clSm44
 ·obtain rfl:=List.mem_singleton.1 hc
  exact clK_con h46
theorem q7(c s:ByteArray)(k:Int):runV X7 (fun _=>none) Tryz.f7 (bodyOf Tryz.f7) [.str c, .str s, .int .i64 k]=
 (T.br (askQ (clSt (42:FuncId)).2
 [AV.str c,
  AV.agg [AV.str {data:={toList:= [(109:UInt8)]}},AV.str s,AV.int IntKind.i64 k,AV.nils,AV.nils]])
  (T.br (askQ (clSt (43:FuncId)).2
 [AV.str c,
  AV.agg [AV.str {data:={toList:= [(109:UInt8)]}},AV.str s,AV.int IntKind.i64 k,AV.nils,AV.nils]])
   (T.br (askQ clTk.2
 [AV.agg [AV.lst (1:Nat) (List.map tyS.elem (locT c s k)) Tl.open_,AV.lst (1:Nat) [] Tl.open_]])
    (T.br (askL E7 (45:Nat)
 [AV.agg [AV.lst (1:Nat) (List.map tyS.elem (locT c s k)) Tl.open_,AV.lst (1:Nat) [] Tl.open_]]
 (AV.agg [AV.lst (1:Nat) (List.map tyS.elem (locT c s k)) Tl.open_,AV.lst (1:Nat) [] Tl.open_]))
         (T.br (askQ clSm.2
 [AV.agg [AV.lst (1:Nat) (List.map tyS.elem (locT c s k)) Tl.open_,AV.lst (1:Nat) [] Tl.open_],
  AV.agg [AV.lst (1:Nat) (List.map tyS.elem (locT c s k)) Tl.open_,AV.lst (1:Nat) [] Tl.open_]])
          (T.br (askL E7 (44:Nat)
 [AV.agg [AV.lst (1:Nat) (List.map tyS.elem (locT c s k)) Tl.open_,AV.lst (1:Nat) [] Tl.open_],
  AV.agg [AV.lst (1:Nat) (List.map tyS.elem (locT c s k)) Tl.open_,AV.lst (1:Nat) [] Tl.open_]]
 (AV.bool true))
       (T.br true
        (T.br (decide (errI c s k=errI c s k))
         (T.br (askQ (clK (46:FuncId)).2 [])
          (T.br (askL E7 (46:Nat) [] (AV.bool true))
           (T.leaf (AV.bool true))
           T.fail)
          T.fail)
         (T.leaf (AV.bool false)))
        (T.br false
         (T.br (askQ (clK (46:FuncId)).2 [])
          (T.br (askL E7 (46:Nat) [] (AV.bool true))
           (T.leaf (AV.bool true))
           T.fail)
          T.fail)
         (T.leaf (AV.bool false))))
       T.fail)
      T.fail)
     T.fail)
    T.fail)
   T.fail)
  T.fail):=by kernel_rfl
theorem g7(h46: ∀h,Con E0 46 [] h (.bool true) h):Ground E7:=⟨fun t h=>by simpa [E7,E0]using h,lightC_ok rfl (fun c hc args ha h=>Con.env (E:=E0) (E':=E7) rfl rfl (cs7_ok h46 c hc args ha h)) (fun c hc args=>by
 rcases List.mem_cons.1 hc with rfl|hc
 ·show noF (idA args)=true
  exact noF_idA args
 rcases List.mem_cons.1 hc with rfl|hc
 ·rfl
 ·obtain rfl:=List.mem_singleton.1 hc
  rfl),bok_none (fun _=>rfl),by kernel_rfl⟩
theorem calls7(h46: ∀h,Con E0 46 [] h (.bool true) h):CallOK X7.E X7.calls:=callsBy_ok rfl fun c hc args ha h=>by
 refine Con.env (E:=E0) (E':=E7) rfl rfl ?_
 rcases List.mem_cons.1 hc with rfl|hc
 ·exact clSt42 args ha h
 rcases List.mem_cons.1 hc with rfl|hc
 ·exact clSt43 args ha h
 ·exact cs7_ok h46 c hc args ha h
theorem con7(c s:ByteArray)(k:Int)(hc:c.size≤140737488351232)(hs:s.size≤140737488351232)(h46: ∀h,Con E0 46 [] h (.bool true) h): ∃h',Con E0 7 [.str c, .str s, .int .i64 k] [] (.bool true) h':=by
 have o:okSt [.str c, .agg [.str ⟨#[109]⟩, .str s, .int .i64 k, .nils, .nils]]:=⟨c,⟨#[109]⟩,s,k,rfl,hc,hs⟩;have o1:okF2 [.agg [encL tyS (locT c s k),encL tyS []]]:=⟨locT c s k,[],rfl⟩;have o2:okSm [.agg [encL tyS (locT c s k),encL tyS []], .agg [encL tyS (locT c s k),encL tyS []]]:=⟨locT c s k,[],rfl,locT_len c s k hs,by decide⟩
 have hr:(runV X7 (fun _=>none) Tryz.f7 (bodyOf Tryz.f7) [.str c, .str s, .int .i64 k]).run= .ok (.bool true):=
  (congrArg T.run (q7 c s k)).trans (bA (bA (bA (bL (cs:=cs7) (c:=clTk) rfl rfl o1 rfl rfl (bA (bL (cs:=cs7) (c:=clSm) rfl rfl o2 rfl rfl (bT rfl (bT (decide_eq_true rfl) (bA (bL (cs:=cs7) (c:=clK 46) rfl rfl rfl rfl rfl rfl) rfl)))) o2)) o1) o) o)
 obtain⟨⟨v,h'⟩,h2,h3⟩:=T.bind_ok hr;cases h3;exact⟨h',Con.env (E:=E7) (E':=E0) rfl rfl (Con.of_run (X:=X7) (f:=7) (g7 h46) (calls7 h46) (fn:=Tryz.f7) Tryz.func7 (c:=bodyOf Tryz.f7) rfl rfl (args:= [.str c, .str s, .int .i64 k]) (h:= []) KOK.none h2)⟩
end Go.Proofs.YtcocmlmligjjcaaGreatDoor.AM
