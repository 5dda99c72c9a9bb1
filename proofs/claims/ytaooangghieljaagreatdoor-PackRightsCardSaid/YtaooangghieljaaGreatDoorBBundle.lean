-- SQUEEZED
/- Moves of bundles, by the document; where classes and turns stand; whether a bundle can be, by the document. -/
import Derived.Test.YtaooangghieljaaGreatDoorBMoves
namespace Go.Proofs.YtaooangghieljaaGreatDoor.AM
open Go Go.Proofs Go.RowKit
set_option linter.unusedVariables false
set_option linter.unusedSimpArgs false
def okOp(args:List AV):Prop:= ∃n:Int,args= [.int .i64 n]
noncomputable def leanA:List AV→Bool:=pick false (fun n:Int=> [.int .i64 n]) fun n=>decide (n∈leanI)
noncomputable def clLn:Cl:=⟨64,okOp,fun args=> .bool (leanA args)⟩
noncomputable def X33(C:List tyC.I)(v3:List tyI.I)(p e:Int):SX:=XC 33 [18,21,32,35,40,45,46,51,55,56,60,70,76,86] [clN 58,⟨63,fun a=>a= [encL tyI v3,encL tyC C, .int .i64 0],fun _=> .tup [.int .i64 p, .int .i64 e]⟩,clLn]
def st33a(i j:Nat):List (Nat×AV):= [(1, .int .i64 i),(2, .ptr 0 0),(5, .ptr 1 0),(6, .int .i64 j)]
def st33b(j:Nat):List (Nat×AV):= [(5, .ptr 1 0),(9, .int .i64 j)]
def hm33(t0:ByteArray)(t1:List tyC.I)(t2:List tyV.I)(v0:ByteArray)(v1:Int)(v2:ByteArray)(v3:List tyI.I):H:= [.var [.str t0,encL tyC t1,encL tyV t2], .var [.str v0, .int .i64 v1, .str v2,encL tyI v3]]
theorem p33a(t0:ByteArray)(t1:List tyC.I)(t2:List tyV.I)(v0:ByteArray)(v1:Int)(v2:ByteArray)(v3:List tyI.I)(p e:Int)(i k:Int):obsK (X33 t1 v3 p e) (fun _=>none) 87 (sub (bodyOf Tryz.f33) [1,1,1,0,1,0,0]) [1,1,1,0,1,0,0] (frm [(1, .int .i64 i),(2, .ptr 0 0),(5, .ptr 1 0),(6, .int .i64 k)]) (hm33 t0 t1 t2 v0 v1 v2 v3) [1,2,4,5,6]=
 (T.br (decide (k<i)) (T.br (decide ((0:Int)≤k)&&decide (k<(↑(List.map tyV.elem t2).length:Int))&&fitsC Tryz.prog (46:Nat) ((List.map tyV.elem t2).getD k.toNat undef)) (T.br (decide ((((List.map tyV.elem t2).getD k.toNat undef).cells.getD 0 undef).toS=v0)) (T.leaf ((X.ret,[AV.int IntKind.i64 i,AV.ptr 0 0,AV.int IntKind.i64 8,AV.ptr 1 0,AV.int IntKind.i64 k],[Blk.var [AV.str
 t0,AV.lst 5 (List.map tyC.elem t1) Tl.open_,AV.lst 4 (List.map tyV.elem t2) Tl.open_],Blk.var [AV.str v0,AV.int IntKind.i64 v1,AV.str v2,AV.lst 2 (List.map tyI.elem v3) Tl.open_]]))) (T.leaf ((X.normal,[AV.int IntKind.i64 i,AV.ptr 0 0,AV.fsl 0 [],AV.ptr 1 0,AV.int IntKind.i64 (IntKind.i64.wrap (k+1))],[Blk.var [AV.str t0,AV.lst 5 (List.map tyC.elem t1) Tl.open_,AV.lst 4 (List.map
 tyV.elem t2) Tl.open_],Blk.var [AV.str v0,AV.int IntKind.i64 v1,AV.str v2,AV.lst 2 (List.map tyI.elem v3) Tl.open_]])))) T.fail) (T.leaf ((X.exit 0,[AV.int IntKind.i64 i,AV.ptr 0 0,AV.fsl 0 [],AV.ptr 1 0,AV.int IntKind.i64 k],[Blk.var [AV.str t0,AV.lst 5 (List.map tyC.elem t1) Tl.open_,AV.lst 4 (List.map tyV.elem t2) Tl.open_],Blk.var [AV.str v0,AV.int IntKind.i64 v1,AV.str v2,
 AV.lst 2 (List.map tyI.elem v3) Tl.open_]])))):=by kernel_rfl
theorem p33b(t0:ByteArray)(t1:List tyC.I)(t2:List tyV.I)(v0:ByteArray)(v1:Int)(v2:ByteArray)(v3:List tyI.I)(p e:Int)(k:Int):obsK (X33 t1 v3 p e) (fun _=>none) 87 (sub (bodyOf Tryz.f33) [1,1,1,1,0,1,0,1,1,1,1,1,0,1,1,1,1,0,0]) [1,1,1,1,0,1,0,1,1,1,1,1,0,1,1,1,1,0,0] (frm [(5, .ptr 1 0),(9, .int .i64 k)]) (hm33 t0 t1 t2 v0 v1 v2 v3) [4,5,9]=
 (T.br (decide (k<(↑(List.map tyI.elem v3).length:Int))) (T.br (decide ((0:Int)≤k)&&decide (k<(↑(List.map tyI.elem v3).length:Int))&&fitsC Tryz.prog (61:Nat) ((List.map tyI.elem v3).getD k.toNat undef)) (T.br (askQ okOp [AV.int IntKind.i64 (((List.map tyI.elem v3).getD k.toNat undef).cells.getD 0 undef).toI]) (T.br (!leanA [AV.int IntKind.i64 (((List.map tyI.elem v3).getD k.toNat
 undef).cells.getD 0 undef).toI]) (T.leaf ((X.ret,[AV.int IntKind.i64 12,AV.ptr 1 0,AV.int IntKind.i64 k],[Blk.var [AV.str t0,AV.lst 5 (List.map tyC.elem t1) Tl.open_,AV.lst 4 (List.map tyV.elem t2) Tl.open_],Blk.var [AV.str v0,AV.int IntKind.i64 v1,AV.str v2,AV.lst 2 (List.map tyI.elem v3) Tl.open_]]))) (T.leaf ((X.normal,[AV.fsl 0 [],AV.ptr 1 0,AV.int IntKind.i64 (IntKind.i64.wrap (k
 +1))],[Blk.var [AV.str t0,AV.lst 5 (List.map tyC.elem t1) Tl.open_,AV.lst 4 (List.map tyV.elem t2) Tl.open_],Blk.var [AV.str v0,AV.int IntKind.i64 v1,AV.str v2,AV.lst 2 (List.map tyI.elem v3) Tl.open_]])))) T.fail) T.fail) (T.leaf ((X.exit 3,[AV.fsl 0 [],AV.ptr 1 0,AV.int IntKind.i64 k],[Blk.var [AV.str t0,AV.lst 5 (List.map tyC.elem t1) Tl.open_,AV.lst 4 (List.map tyV.elem t2)
 Tl.open_],Blk.var [AV.str v0,AV.int IntKind.i64 v1,AV.str v2,AV.lst 2 (List.map tyI.elem v3) Tl.open_]])))):=by kernel_rfl
theorem p33r(t0:ByteArray)(t1:List tyC.I)(t2:List tyV.I)(v0:ByteArray)(v1:Int)(v2:ByteArray)(v3:List tyI.I)(p e:Int)(i:Nat):runV (X33 t1 v3 p e) (kTwo (kAt [1,1,1,0,1] (st33a i 0) (hm33 t0 t1 t2 v0 v1 v2 v3) .ret [(4, .int .i64 8)] []) (kNo [1,1,1,1,0,1,0,1,1,1,1,1,0,1,1,1,1])) Tryz.f33 (bodyOf Tryz.f33) [.agg [.str t0,encL tyC t1,encL tyV t2], .int .i64 i]=
 (T.br (decide ((0:Int)≤(↑i:Int))&&decide ((↑i:Int)<(↑(List.map tyV.elem t2).length:Int))&&fitsC Tryz.prog (46:Nat) ((List.map tyV.elem t2).getD (↑i:Int).toNat undef)) (T.br (askQ (clN (58:FuncId)).2 [AV.str (((List.map tyV.elem t2).getD (↑i:Int).toNat undef).cells.getD 0 undef).toS]) (T.br (!nmA [AV.str (((List.map tyV.elem t2).getD (↑i:Int).toNat undef).cells.getD 0
 undef).toS]) (T.leaf (AV.int IntKind.i64 7)) (T.br (askS [AV.int IntKind.i64 (↑i:Int),AV.ptr 0 (0:Nat),AV.ptr 1 (0:Nat),AV.int IntKind.i64 (0:Int)] [AV.int IntKind.i64 (↑i:Int),AV.ptr 0 (0:Nat),AV.ptr 1 (0:Nat),AV.int IntKind.i64 (↑(0:Nat):Int)] [Blk.var [AV.str t0,AV.lst 5 (List.map tyC.elem t1) Tl.open_,AV.lst 4 (List.map tyV.elem t2) Tl.open_],Blk.var [AV.str
 (((List.map tyV.elem t2).getD (↑i:Int).toNat undef).cells.getD 0 undef).toS,AV.int IntKind.i64 (((List.map tyV.elem t2).getD (↑i:Int).toNat undef).cells.getD 1 undef).toI,AV.str (((List.map tyV.elem t2).getD (↑i:Int).toNat undef).cells.getD 2 undef).toS,AV.lst 2 (((List.map tyV.elem t2).getD (↑i:Int).toNat undef).cells.getD 3 undef).toL Tl.open_]] [Blk.var [AV.str t0,AV.lst 5 (List.map
 tyC.elem t1) Tl.open_,AV.lst 4 (List.map tyV.elem t2) Tl.open_],Blk.var [AV.str v0,AV.int IntKind.i64 v1,AV.str v2,AV.lst 2 (List.map tyI.elem v3) Tl.open_]]) (T.leaf (AV.int IntKind.i64 8)) T.fail)) T.fail) T.fail):=by kernel_rfl
theorem p33nr(t0:ByteArray)(t1:List tyC.I)(t2:List tyV.I)(v0:ByteArray)(v1:Int)(v2:ByteArray)(v3:List tyI.I)(p e:Int)(i:Nat):runV (X33 t1 v3 p e) (kTwo (kAt [1,1,1,0,1] (st33a i 0) (hm33 t0 t1 t2 v0 v1 v2 v3) .normal (st33a i i) (hm33 t0 t1 t2 v0 v1 v2 v3)) (kAt [1,1,1,1,0,1,0,1,1,1,1,1,0,1,1,1,1] (st33b 0) (hm33 t0 t1 t2 v0 v1 v2 v3) .ret [(4, .int .i64 12)] [])) Tryz.f33 (bodyOf Tryz.f33) [.agg [.str t0,encL tyC t1,encL tyV t2], .int .i64 i]=
 ((fun(s0:T AV)=>(T.br (decide ((0:Int)≤(↑i:Int))&&decide ((↑i:Int)<(↑(List.map tyV.elem t2).length:Int))&&fitsC Tryz.prog (46:Nat) ((List.map tyV.elem t2).getD (↑i:Int).toNat undef)) (T.br (askQ (clN (58:FuncId)).2 [AV.str (((List.map tyV.elem t2).getD (↑i:Int).toNat undef).cells.getD 0 undef).toS]) (T.br (!nmA [AV.str (((List.map tyV.elem t2).getD (↑i:Int).toNat
 undef).cells.getD 0 undef).toS]) (T.leaf (AV.int IntKind.i64 7)) (T.br (askS [AV.int IntKind.i64 (↑i:Int),AV.ptr 0 (0:Nat),AV.ptr 1 (0:Nat),AV.int IntKind.i64 (0:Int)] [AV.int IntKind.i64 (↑i:Int),AV.ptr 0 (0:Nat),AV.ptr 1 (0:Nat),AV.int IntKind.i64 (↑(0:Nat):Int)] [Blk.var [AV.str t0,AV.lst 5 (List.map tyC.elem t1) Tl.open_,AV.lst 4 (List.map tyV.elem t2) Tl.open_],
 Blk.var [AV.str (((List.map tyV.elem t2).getD (↑i:Int).toNat undef).cells.getD 0 undef).toS,AV.int IntKind.i64 (((List.map tyV.elem t2).getD (↑i:Int).toNat undef).cells.getD 1 undef).toI,AV.str (((List.map tyV.elem t2).getD (↑i:Int).toNat undef).cells.getD 2 undef).toS,AV.lst 2 (((List.map tyV.elem t2).getD (↑i:Int).toNat undef).cells.getD 3 undef).toL Tl.open_]] [Blk.var [AV.str t0,
 AV.lst 5 (List.map tyC.elem t1) Tl.open_,AV.lst 4 (List.map tyV.elem t2) Tl.open_],Blk.var [AV.str v0,AV.int IntKind.i64 v1,AV.str v2,AV.lst 2 (List.map tyI.elem v3) Tl.open_]]) (T.br (decide (v1=(0:Int))) (T.br (!decide (v2={data:={toList:= []}})) (T.br true (T.leaf (AV.int IntKind.i64 2)) (T.leaf (AV.int IntKind.i64 0))) s0) (T.br (decide (v1=(1:Int))) (T.br (askQ (clN (58:
 FuncId)).2 [AV.str v2]) (T.br (!nmA [AV.str v2]) (T.leaf (AV.int IntKind.i64 7)) s0) T.fail) (T.br (decide (v1=(2:Int))) (T.br (!decide (v2={data:={toList:= []}})) (T.leaf (AV.int IntKind.i64 2)) (T.br (askQ (fun a=>a= [encL tyI v3,encL tyC t1,AV.int IntKind.i64 (0:Int)]) [AV.lst 2 (List.map tyI.elem v3) Tl.open_,AV.lst 5 (List.map tyC.elem t1) Tl.open_,AV.int IntKind.i64 (0:
 Int)]) (T.br (!decide (e=(0:Int))) (T.leaf (AV.int IntKind.i64 e)) (T.br (askS [AV.ptr 1 (0:Nat),AV.int IntKind.i64 (0:Int)] [AV.ptr 1 (0:Nat),AV.int IntKind.i64 (↑(0:Nat):Int)] [Blk.var [AV.str t0,AV.lst 5 (List.map tyC.elem t1) Tl.open_,AV.lst 4 (List.map tyV.elem t2) Tl.open_],Blk.var [AV.str v0,AV.int IntKind.i64 v1,AV.str v2,AV.lst 2 (List.map tyI.elem v3) Tl.open_]]
 [Blk.var [AV.str t0,AV.lst 5 (List.map tyC.elem t1) Tl.open_,AV.lst 4 (List.map tyV.elem t2) Tl.open_],Blk.var [AV.str v0,AV.int IntKind.i64 v1,AV.str v2,AV.lst 2 (List.map tyI.elem v3) Tl.open_]]) (T.leaf (AV.int IntKind.i64 12)) T.fail)) T.fail)) (T.leaf (AV.int IntKind.i64 2))))) T.fail)) T.fail) T.fail)) (T.br (decide ((0:Int)<(↑(List.map tyI.elem v3).length:Int))) (T.leaf (AV.int
 IntKind.i64 2)) (T.leaf (AV.int IntKind.i64 0)))):=by kernel_rfl
theorem p33nn(t0:ByteArray)(t1:List tyC.I)(t2:List tyV.I)(v0:ByteArray)(v1:Int)(v2:ByteArray)(v3:List tyI.I)(p e:Int)(i:Nat):runV (X33 t1 v3 p e) (kTwo (kAt [1,1,1,0,1] (st33a i 0) (hm33 t0 t1 t2 v0 v1 v2 v3) .normal (st33a i i) (hm33 t0 t1 t2 v0 v1 v2 v3)) (kAt [1,1,1,1,0,1,0,1,1,1,1,1,0,1,1,1,1] (st33b 0) (hm33 t0 t1 t2 v0 v1 v2 v3) .normal (st33b v3.length) (hm33 t0 t1 t2 v0 v1 v2 v3))) Tryz.f33 (bodyOf Tryz.f33) [.agg [.str t0,encL tyC t1,encL tyV t2], .int .i64 i]=
 ((fun(s0:T AV)=>(T.br (decide ((0:Int)≤(↑i:Int))&&decide ((↑i:Int)<(↑(List.map tyV.elem t2).length:Int))&&fitsC Tryz.prog (46:Nat) ((List.map tyV.elem t2).getD (↑i:Int).toNat undef)) (T.br (askQ (clN (58:FuncId)).2 [AV.str (((List.map tyV.elem t2).getD (↑i:Int).toNat undef).cells.getD 0 undef).toS]) (T.br (!nmA [AV.str (((List.map tyV.elem t2).getD (↑i:Int).toNat
 undef).cells.getD 0 undef).toS]) (T.leaf (AV.int IntKind.i64 7)) (T.br (askS [AV.int IntKind.i64 (↑i:Int),AV.ptr 0 (0:Nat),AV.ptr 1 (0:Nat),AV.int IntKind.i64 (0:Int)] [AV.int IntKind.i64 (↑i:Int),AV.ptr 0 (0:Nat),AV.ptr 1 (0:Nat),AV.int IntKind.i64 (↑(0:Nat):Int)] [Blk.var [AV.str t0,AV.lst 5 (List.map tyC.elem t1) Tl.open_,AV.lst 4 (List.map tyV.elem t2) Tl.open_],
 Blk.var [AV.str (((List.map tyV.elem t2).getD (↑i:Int).toNat undef).cells.getD 0 undef).toS,AV.int IntKind.i64 (((List.map tyV.elem t2).getD (↑i:Int).toNat undef).cells.getD 1 undef).toI,AV.str (((List.map tyV.elem t2).getD (↑i:Int).toNat undef).cells.getD 2 undef).toS,AV.lst 2 (((List.map tyV.elem t2).getD (↑i:Int).toNat undef).cells.getD 3 undef).toL Tl.open_]] [Blk.var [AV.str t0,
 AV.lst 5 (List.map tyC.elem t1) Tl.open_,AV.lst 4 (List.map tyV.elem t2) Tl.open_],Blk.var [AV.str v0,AV.int IntKind.i64 v1,AV.str v2,AV.lst 2 (List.map tyI.elem v3) Tl.open_]]) (T.br (decide (v1=(0:Int))) (T.br (!decide (v2={data:={toList:= []}})) (T.br true (T.leaf (AV.int IntKind.i64 2)) (T.leaf (AV.int IntKind.i64 0))) s0) (T.br (decide (v1=(1:Int))) (T.br (askQ (clN (58:
 FuncId)).2 [AV.str v2]) (T.br (!nmA [AV.str v2]) (T.leaf (AV.int IntKind.i64 7)) s0) T.fail) (T.br (decide (v1=(2:Int))) (T.br (!decide (v2={data:={toList:= []}})) (T.leaf (AV.int IntKind.i64 2)) (T.br (askQ (fun a=>a= [encL tyI v3,encL tyC t1,AV.int IntKind.i64 (0:Int)]) [AV.lst 2 (List.map tyI.elem v3) Tl.open_,AV.lst 5 (List.map tyC.elem t1) Tl.open_,AV.int IntKind.i64 (0:
 Int)]) (T.br (!decide (e=(0:Int))) (T.leaf (AV.int IntKind.i64 e)) (T.br (askS [AV.ptr 1 (0:Nat),AV.int IntKind.i64 (0:Int)] [AV.ptr 1 (0:Nat),AV.int IntKind.i64 (↑(0:Nat):Int)] [Blk.var [AV.str t0,AV.lst 5 (List.map tyC.elem t1) Tl.open_,AV.lst 4 (List.map tyV.elem t2) Tl.open_],Blk.var [AV.str v0,AV.int IntKind.i64 v1,AV.str v2,AV.lst 2 (List.map tyI.elem v3) Tl.open_]]
 [Blk.var [AV.str t0,AV.lst 5 (List.map tyC.elem t1) Tl.open_,AV.lst 4 (List.map tyV.elem t2) Tl.open_],Blk.var [AV.str v0,AV.int IntKind.i64 v1,AV.str v2,AV.lst 2 (List.map tyI.elem v3) Tl.open_]]) (T.leaf (AV.int IntKind.i64 0)) T.fail)) T.fail)) (T.leaf (AV.int IntKind.i64 2))))) T.fail)) T.fail) T.fail)) (T.br (decide ((0:Int)<(↑(List.map tyI.elem v3).length:Int))) (T.leaf (AV.int
 IntKind.i64 2)) (T.leaf (AV.int IntKind.i64 0)))):=by kernel_rfl
theorem leanA_eq(n:Int):leanA [.int .i64 n]=decide (n∈leanI):=pick_eq (enc:=fun n:Int=> [AV.int .i64 n]) (fun x y h=>by simpa using h) n
theorem clLn64: ∀args,clLn.ok args→ ∀h,Con E0 clLn.f args h (clLn.res args) h:=by
 rintro args ⟨n,rfl⟩ h;show Con E0 64 _ h (.bool (leanA [.int .i64 n])) h;rw[leanA_eq];exact con64 n h
theorem calls33(C:List tyC.I)(v3:List tyI.I)(hl:v3.length<1000000000000000):CallOK (X33 C v3 (checkR v3 C 0).1 (checkR v3 C 0).2).E (X33 C v3 (checkR v3 C 0).1 (checkR v3 C 0).2).calls:=callsBy_ok rfl fun q hq args ha h=>by
 rcases List.mem_cons.1 hq with rfl|hq
 ·exact clN39 args ha h
 rcases List.mem_cons.1 hq with rfl|hq
 ·obtain rfl:args=_:=ha
  exact con73 v3 C 0 hl h
 ·obtain rfl:=List.mem_singleton.1 hq
  exact clLn64 args ha h
set_option maxRecDepth 100000 in
theorem con33(t0:ByteArray)(t1:List tyC.I)(t2:List tyV.I)(i:Nat)(hi:i<t2.length)(hl:t2.length<1000000000000000)(hok: ∀x,x∈t2→tyV.okay x)(h:H):Con E0 33 [tyT.elem (t0,t1,t2), .int .i64 i] h (.int .i64 (moveE t1 t2 i)) h:=by
 have hn:noRefs [tyT.elem (t0,t1,t2), .int .i64 i]=true:=by
  have:=noRefs1 tyT (t0,t1,t2)
  simp only[noRefs,Bool.and_true]at this ⊢
  rw[this];rfl
 have f0:fitsC Tryz.prog 46 (tyV.elem tyV.zero)=true:=by kernel_rfl
 have f1:fitsC Tryz.prog 61 (tyI.elem tyI.zero)=true:=by kernel_rfl
 have hx:=hok _ (getD_mem (d:=tyV.zero) hi)
 have hE: ∀b,ask (∃k,k<i∧nmV (t2.getD k tyV.zero)=nmV (t2.getD i tyV.zero))=b→moveE t1 t2 i=(match nmA [.str (nmV (t2.getD i tyV.zero))]with
  |false=>7
  |true=>match b with
   |true=>8
   |false=>moveV t1 (t2.getD i tyV.zero)):=by intro b hb;unfold moveE;rw[hb,moveA_eq];rfl
 obtain⟨v0,v1,v2,v3,hv⟩: ∃(v0:ByteArray) (v1:Int) (v2:ByteArray) (v3:List tyI.I),t2.getD i tyV.zero=(v0,v1,v2,v3):=by
  obtain⟨⟨v0,v1,v2,v3⟩,hv⟩: ∃x:tyV.I,t2.getD i tyV.zero=x:=⟨_,rfl⟩;exact⟨v0,v1,v2,v3,hv⟩
 have e3:(v3.map tyI.elem).length=v3.length:=by simp
 have n0:nmV (t2.getD i tyV.zero)=v0:=by rw[hv];rfl
 rw[hv]at hx;have l3:v3.length<1000000000000000:=Nat.lt_of_le_of_lt hx.2.2.2.1 (by decide)
 have hcall:=calls33 t1 v3 l3
 obtain⟨p,hp⟩: ∃p,p=(checkR v3 t1 0).1:=⟨_,rfl⟩;obtain⟨e,he⟩: ∃e,e=(checkR v3 t1 0).2:=⟨_,rfl⟩;rw[←hp,←he]at hcall
 have fxm: ∀x,x∈hm33 t0 t1 t2 v0 v1 v2 v3→fxB 2 x:=fun x hx=>by
  simp only[hm33,List.mem_cons,List.not_mem_nil,or_false]at hx
  rcases hx with rfl|rfl
  ·refine fxB_var fun v hv=>?_
   simp only[List.mem_cons,List.not_mem_nil,or_false]at hv
   rcases hv with rfl|rfl|rfl
   ·exact fun _=>rfl
   ·exact fx_L
   ·exact fx_L
  ·refine fxB_var fun v hv=>?_
   simp only[List.mem_cons,List.not_mem_nil,or_false]at hv
   rcases hv with rfl|rfl|rfl|rfl
   ·exact fun _=>rfl
   ·exact fun _=>rfl
   ·exact fun _=>rfl
   ·exact fx_L
 have sla: ∀(x:AV) (j:Nat),∀q,q∈st33a i j→frm ([1,2,4,5,6].zip [.int .i64 i, .ptr 0 0,x, .ptr 1 0, .int .i64 j]) q.1=q.2∧fx 2 q.2∧isFsl q.2=false:=by
  intro x j q hq;simp only[st33a,List.mem_cons,List.not_mem_nil,or_false]at hq
  rcases hq with rfl|rfl|rfl|rfl<;>exact⟨rfl,fun _=>rfl,rfl⟩
 have slb: ∀(x:AV) (j:Nat),∀q,q∈st33b j→frm ([4,5,9].zip [x, .ptr 1 0, .int .i64 j]) q.1=q.2∧fx 2 q.2∧isFsl q.2=false:=by
  intro x j q hq;simp only[st33b,List.mem_cons,List.not_mem_nil,or_false]at hq
  rcases hq with rfl|rfl<;>exact⟨rfl,fun _=>rfl,rfl⟩
 have rt: ∀{n:Int} {os:List Nat} {vs:List AV},frm (os.zip vs) 4= .int .i64 n→ ∀q,q∈ [(4,AV.int .i64 n)]→frm (os.zip vs) q.1=q.2∧fx ([]:H).length q.2∧isFsl q.2=false:=fun h q hq=>by
  obtain rfl:=List.mem_singleton.1 hq;exact⟨h,fun _=>rfl,rfl⟩
 obtain⟨a1,a2⟩:=find_roundsR (E:=E0) (N:=87) (h0:= []) (c:=sub (bodyOf Tryz.f33) [1,1,1,0,1,0,0]) (p:=fun k=>nmV (t2.getD k tyV.zero)=v0) (n:=i) (st:=st33a i) (hm:=fun _=>hm33 t0 t1 t2 v0 v1 v2 v3) (hr:=fun _=> []) (rt:=fun _=> [(4, .int .i64 8)]) (id:=0)
  (fun j hj _ hq=>by
   have ht:=p33a t0 t1 t2 v0 v1 v2 v3 p e i j
   have hq':decide (((tyV.elem (t2.getD j tyV.zero)).cells.getD 0 undef).toS=v0)=false:=decide_eq_false hq;rw[idx_ok (by omega) f0,decide_eq_true (show(j:Int)<i by omega),Int.toNat_natCast,getD_elem (by omega),wrap_next (by omega),hq']at ht
   exact Tri.seenX (X:=X33 t1 v3 p e) (extra:= []) g0 noG0 hcall (congrArg T.run ht) (Nat.zero_le _) fxm (sla _ _))
  (fun j hj _ hq=>by
   have ht:=p33a t0 t1 t2 v0 v1 v2 v3 p e i j
   have hq':decide (((tyV.elem (t2.getD j tyV.zero)).cells.getD 0 undef).toS=v0)=true:=decide_eq_true hq;rw[idx_ok (by omega) f0,decide_eq_true (show(j:Int)<i by omega),Int.toNat_natCast,getD_elem (by omega),hq']at ht
   exact Tri.seenX (X:=X33 t1 v3 p e) (h':= []) (extra:=hm33 t0 t1 t2 v0 v1 v2 v3) g0 noG0 hcall (congrArg T.run ht) (Nat.zero_le _) nofun (rt rfl))
  (by
   have ht:=p33a t0 t1 t2 v0 v1 v2 v3 p e i i
   rw[decide_eq_false (show¬(i:Int)<i by omega)]at ht
   exact Tri.seenX (X:=X33 t1 v3 p e) (extra:= []) g0 noG0 hcall (congrArg T.run ht) (Nat.zero_le _) fxm (sla _ _))
 obtain⟨b1,b2⟩:=find_roundsR (E:=E0) (N:=87) (h0:= []) (c:=sub (bodyOf Tryz.f33) [1,1,1,1,0,1,0,1,1,1,1,1,0,1,1,1,1,0,0]) (p:=badV v3) (n:=v3.length) (st:=st33b) (hm:=fun _=>hm33 t0 t1 t2 v0 v1 v2 v3) (hr:=fun _=> []) (rt:=fun _=> [(4, .int .i64 12)]) (id:=3)
  (fun j hj _ hq=>by
   have ht:=p33b t0 t1 t2 v0 v1 v2 v3 p e j
   have hq':leanA [.int .i64 ((tyI.elem (v3.getD j tyI.zero)).cells.getD 0 undef).toI]=true:=by rw[leanA_eq];exact decide_eq_true (Classical.not_not.1 hq)
   have qo:askQ okOp [.int .i64 ((tyI.elem (v3.getD j tyI.zero)).cells.getD 0 undef).toI]=true:=ask_true ⟨_,rfl⟩;rw[idx_ok hj f1,lt_ok hj,Int.toNat_natCast,getD_elem hj,wrap_next (by omega),qo,hq']at ht
   exact Tri.seenX (X:=X33 t1 v3 p e) (extra:= []) g0 noG0 hcall (congrArg T.run ht) (Nat.zero_le _) fxm (slb _ _))
  (fun j hj _ hq=>by
   have ht:=p33b t0 t1 t2 v0 v1 v2 v3 p e j
   have hq':leanA [.int .i64 ((tyI.elem (v3.getD j tyI.zero)).cells.getD 0 undef).toI]=false:=by rw[leanA_eq];exact decide_eq_false hq
   have qo:askQ okOp [.int .i64 ((tyI.elem (v3.getD j tyI.zero)).cells.getD 0 undef).toI]=true:=ask_true ⟨_,rfl⟩;rw[idx_ok hj f1,lt_ok hj,Int.toNat_natCast,getD_elem hj,qo,hq']at ht
   exact Tri.seenX (X:=X33 t1 v3 p e) (h':= []) (extra:=hm33 t0 t1 t2 v0 v1 v2 v3) g0 noG0 hcall (congrArg T.run ht) (Nat.zero_le _) nofun (rt rfl))
  (by
   have ht:=p33b t0 t1 t2 v0 v1 v2 v3 p e v3.length
   rw[lt_no]at ht
   exact Tri.seenX (X:=X33 t1 v3 p e) (extra:= []) g0 noG0 hcall (congrArg T.run ht) (Nat.zero_le _) fxm (slb _ _))
 have fin: ∀{K:Known},KOK E0 87 [] (bodyOf Tryz.f33) K→(runV (X33 t1 v3 p e) K Tryz.f33 (bodyOf Tryz.f33) [tyT.elem (t0,t1,t2), .int .i64 i]).run= .ok (.int .i64 (moveE t1 t2 i))→Con E0 33 [tyT.elem (t0,t1,t2), .int .i64 i] h (.int .i64 (moveE t1 t2 i)) h:=fun hk hr=>
  Con.pureV (X:=X33 t1 v3 p e) g0 noG0 hcall (fn:=Tryz.f33) Tryz.func33 (c:=bodyOf Tryz.f33) rfl rfl (args:= [tyT.elem (t0,t1,t2), .int .i64 i]) hk hn hr (Le.refl _) rfl h
 have q0:askQ (clN 58).2 [AV.str v0]=true:=ask_true ⟨v0,rfl,hx.1⟩;have q2:askQ (clN 58).2 [AV.str v2]=true:=ask_true ⟨v2,rfl,hx.2.2.1⟩
 have open_: ∀{t:T AV} {a b:AV} {x:R AV} {hA hB:H},(nmA [AV.str v0]=false→x= .ok (.int .i64 7))→hA=hB→(nmA [AV.str v0]=true→t.run=x)→
   (T.br true (T.br (askQ (clN 58).2 [AV.str v0]) (T.br (!nmA [AV.str v0]) (T.leaf (.int .i64 7)) (T.br (askS [AV.int .i64 (i:Int), .ptr 0 0, .ptr 1 0, .int .i64 0] [AV.int .i64 (i:Int), .ptr 0 0, .ptr 1 0, .int .i64 ((0:Nat):Int)] hA hB) t .fail)) .fail) .fail).run=x:=by
  intro t a b x hA hB h7 hh ht;subst hh;refine bT rfl (bT q0 ?_)
  cases hc:nmA [AV.str v0]with
  |false=>exact bT rfl (h7 hc).symm
  |true=>exact bF rfl (bT (askS_self _ _) (ht hc))
 cases hf:firstI (fun k=>nmV (t2.getD k tyV.zero)=v0) i with
 |some k=>
  obtain⟨k1,k2,_⟩:=firstI_some hf;have ha:ask (∃k,k<i∧nmV (t2.getD k tyV.zero)=nmV (t2.getD i tyV.zero))=true:=ask_true ⟨k,k1,k2.trans n0.symm⟩
  have hR:moveE t1 t2 i=(match nmA [AV.str v0]with
   |false=>7
   |true=>8):=by rw[hE true ha,n0]
  have ht:=p33r t0 t1 t2 v0 v1 v2 v3 p e i
  rw[idx_ok hi f0,Int.toNat_natCast,getD_elem hi,hv]at ht
  rw[hR]at fin ⊢
  refine fin (KOK.two (kAt_ok (p:= [1,1,1,0,1]) (a1 k hf)) (kNo_ok (p:= [1,1,1,1,0,1,0,1,1,1,1,1,0,1,1,1,1]))) ((congrArg T.run ht).trans ?_)
  exact open_ (a:=undef) (b:=undef) (fun h7=>by rw[h7]) rfl fun h8=>by rw[h8];rfl
 |none=>
  have ha:ask (∃k,k<i∧nmV (t2.getD k tyV.zero)=nmV (t2.getD i tyV.zero))=false:=ask_false fun⟨k,k1,k2⟩=>firstI_none hf k k1 (k2.trans n0)
  have hR:moveE t1 t2 i=(match nmA [AV.str v0]with
   |false=>7
   |true=>moveK t1 v1 v2 v3):=by rw[hE false ha,n0,hv];rfl
  have k1:=kAt_ok (p:= [1,1,1,0,1]) (b:=bodyOf Tryz.f33) (a2 hf)
  rw[hR]at fin ⊢
  have tail: ∀{x:R AV},(R.ok (.int .i64 (if 0<v3.length then 2 else 0)):R AV)=x→(T.br (decide ((0:Int)<((v3.map tyI.elem).length:Int))) (T.leaf (AV.int .i64 2)) (T.leaf (AV.int .i64 0))).run=x:=by
   intro x hx
   by_cases h0:0<v3.length
   ·rw[if_pos h0]at hx;exact bT (decide_eq_true (by rw[e3];omega)) hx
   ·rw[if_neg h0]at hx;exact bF (decide_eq_false (by rw[e3];omega)) hx
  have body: ∀(r:Int),codeV t1 v3=(if e≠0 then e else r)→
    (T.br (decide (v1=0)) (T.br (!decide (v2=⟨⟨[]⟩⟩)) (T.br true (T.leaf (AV.int .i64 2)) (T.leaf (AV.int .i64 0))) (T.br (decide ((0:Int)<((v3.map tyI.elem).length:Int))) (T.leaf (AV.int .i64 2)) (T.leaf (AV.int .i64 0))))
     (T.br (decide (v1=1)) (T.br (askQ (clN 58).2 [AV.str v2]) (T.br (!nmA [AV.str v2]) (T.leaf (AV.int .i64 7)) (T.br (decide ((0:Int)<((v3.map tyI.elem).length:Int))) (T.leaf (AV.int .i64 2)) (T.leaf (AV.int .i64 0)))) T.fail)
      (T.br (decide (v1=2)) (T.br (!decide (v2=⟨⟨[]⟩⟩)) (T.leaf (AV.int .i64 2)) (T.br (askQ (fun a=>a= [encL tyI v3,encL tyC t1,AV.int .i64 0]) [AV.lst 2 (List.map tyI.elem v3) Tl.open_,AV.lst 5 (List.map tyC.elem t1) Tl.open_,AV.int .i64 0]) (T.br (!decide (e=0)) (T.leaf (AV.int .i64 e)) (T.br (askS [AV.ptr 1 0,AV.int .i64 0] [AV.ptr 1 0,AV.int .i64 ((0:Nat):Int)] (hm33 t0 t1 t2 v0 v1 v2 v3) (hm33 t0 t1 t2 v0 v1 v2 v3)) (T.leaf (AV.int .i64 r)) T.fail)) T.fail)) (T.leaf (AV.int .i64 2))))).run= .ok (.int .i64 (moveK t1 v1 v2 v3)):=by
   intro r hr;unfold moveK;rw[hr]
   by_cases h3:v1=0
   ·have h1: ¬v1=1:=by omega
    have h2: ¬v1=2:=by omega
    rw[if_neg h1,if_neg h2,if_pos h3]
    refine bT (decide_eq_true h3) ?_
    by_cases h4:v2=⟨⟨[]⟩⟩
    ·rw[if_pos h4];exact bF (by rw[decide_eq_true h4];rfl) (tail rfl)
    ·rw[if_neg h4];exact bT (by rw[decide_eq_false h4];rfl) (bT rfl rfl)
   refine bF (decide_eq_false h3) ?_
   by_cases h1:v1=1
   ·rw[if_pos h1]
    refine bT (decide_eq_true h1) (bT q2 ?_)
    cases hq:nmA [AV.str v2]with
    |false=>exact bT rfl rfl
    |true=>exact bF rfl (tail rfl)
   rw[if_neg h1]
   refine bF (decide_eq_false h1) ?_
   by_cases h2:v1=2
   ·rw[if_pos h2]
    refine bT (decide_eq_true h2) ?_
    by_cases h4:v2=⟨⟨[]⟩⟩
    ·rw[if_pos h4]
     refine bF (by rw[decide_eq_true h4];rfl) (bQ rfl ?_)
     by_cases h5:e=0
     ·rw[if_neg (fun h=>h h5)]
      exact bF (by rw[decide_eq_true h5];rfl) (bT (askS_self _ _) rfl)
     ·rw[if_pos h5]
      exact bT (by rw[decide_eq_false h5];rfl) rfl
    ·rw[if_neg h4];exact bT (by rw[decide_eq_false h4];rfl) rfl
   ·rw[if_neg h2,if_neg h3]
    exact bF (decide_eq_false h2) rfl
  cases hg:firstI (badV v3) v3.length with
  |some j=>
   have ht:=p33nr t0 t1 t2 v0 v1 v2 v3 p e i
   rw[idx_ok hi f0,Int.toNat_natCast,getD_elem hi,hv]at ht;refine fin (KOK.two k1 (kAt_ok (p:= [1,1,1,1,0,1,0,1,1,1,1,1,0,1,1,1,1]) (b1 j hg))) ((congrArg T.run ht).trans ?_)
   exact open_ (a:=undef) (b:=undef) (fun h7=>by rw[h7]) rfl fun h8=>by rw[h8];exact body 12 (by unfold codeV;rw[←he,hg])
  |none=>
   have ht:=p33nn t0 t1 t2 v0 v1 v2 v3 p e i
   rw[idx_ok hi f0,Int.toNat_natCast,getD_elem hi,hv]at ht;refine fin (KOK.two k1 (kAt_ok (p:= [1,1,1,1,0,1,0,1,1,1,1,1,0,1,1,1,1]) (b2 hg))) ((congrArg T.run ht).trans ?_)
   exact open_ (a:=undef) (b:=undef) (fun h7=>by rw[h7]) rfl fun h8=>by rw[h8];exact body 0 (by unfold codeV;rw[←he,hg])
def hm11(K:List tyK.I)(L:List tyT.I)(s:ByteArray):H:= [.var [encL tyK K,encL tyT L], .var [.str s]]
noncomputable def Xv34:SX:={E:=E0,f:=34,con:=fun _=>false,split:=fun d=> [9,16].contains d,call:=callsRun [(35,XN 35 [],Tryz.f35,bodyOf Tryz.f35)]}
def stv34(L:List tyK.I)(j:Nat):List (Nat×AV):= [(0,encL tyK L),(1, .clo 35 [] [.ptr 1 0]),(7, .int .i64 (((L.map tyK.elem).length:Nat):Int)),(8, .int .i64 j)]
theorem pv34(K:List tyK.I)(L:List tyT.I)(s:ByteArray)(m i:Int):obsK Xv34 (fun _=>none) 19 (sub (bodyOf Tryz.f34) [1,0,1,0,0]) [1,0,1,0,0] (frm [(0,encL tyK K),(1, .clo 35 [] [.ptr 1 0]),(7, .int .i64 m),(8, .int .i64 i)]) (hm11 K L s) [0,1,4,7,8]=
 (T.br (decide (i<m)) (T.br (decide ((0:Int)≤i)&&decide (i<(↑(List.map tyK.elem K).length:Int))&&fitsC Tryz.prog (37:Nat) ((List.map tyK.elem K).getD i.toNat undef)) (T.br (decide ((((List.map tyK.elem K).getD i.toNat undef).cells.getD 0 undef).toS=s)) (T.leaf ((X.ret,[AV.lst 5 (List.map tyK.elem K) Tl.open_,AV.clo 35 [] [AV.ptr 1 0],AV.int IntKind.i64 i,AV.int IntKind.i64 m,
 AV.int IntKind.i64 i],[Blk.var [AV.lst 5 (List.map tyK.elem K) Tl.open_,AV.lst 3 (List.map tyT.elem L) Tl.open_],Blk.var [AV.str s],Blk.var [AV.str (((List.map tyK.elem K).getD i.toNat undef).cells.getD 0 undef).toS,AV.str (((List.map tyK.elem K).getD i.toNat undef).cells.getD 1 undef).toS,AV.lst 5 (((List.map tyK.elem K).getD i.toNat undef).cells.getD 2 undef).toL Tl.open_,AV.lst 2
 (((List.map tyK.elem K).getD i.toNat undef).cells.getD 3 undef).toL Tl.open_,AV.lst 5 (((List.map tyK.elem K).getD i.toNat undef).cells.getD 4 undef).toL Tl.open_]]))) (T.leaf ((X.normal,[AV.lst 5 (List.map tyK.elem K) Tl.open_,AV.clo 35 [] [AV.ptr 1 0],AV.fsl 0 [],AV.int IntKind.i64 m,AV.int IntKind.i64 (IntKind.i64.wrap (i+1))],[Blk.var [AV.lst 5 (List.map tyK.elem K) Tl.open_,AV.lst 3
 (List.map tyT.elem L) Tl.open_],Blk.var [AV.str s],Blk.var [AV.str (((List.map tyK.elem K).getD i.toNat undef).cells.getD 0 undef).toS,AV.str (((List.map tyK.elem K).getD i.toNat undef).cells.getD 1 undef).toS,AV.lst 5 (((List.map tyK.elem K).getD i.toNat undef).cells.getD 2 undef).toL Tl.open_,AV.lst 2 (((List.map tyK.elem K).getD i.toNat undef).cells.getD 3 undef).toL Tl.open_,AV.lst 5
 (((List.map tyK.elem K).getD i.toNat undef).cells.getD 4 undef).toL Tl.open_]])))) T.fail) (T.leaf ((X.exit 0,[AV.lst 5 (List.map tyK.elem K) Tl.open_,AV.clo 35 [] [AV.ptr 1 0],AV.fsl 0 [],AV.int IntKind.i64 m,AV.int IntKind.i64 i],[Blk.var [AV.lst 5 (List.map tyK.elem K) Tl.open_,AV.lst 3 (List.map tyT.elem L) Tl.open_],Blk.var [AV.str s]])))):=by kernel_rfl
theorem pv34s(K:List tyK.I)(L:List tyT.I)(s:ByteArray)(i:Nat):runF Xv34 (kAt [1,0,1] (stv34 K 0) (hm11 K L s) .ret [(4, .int .i64 i)] (hm11 K L s)) Tryz.f34 (bodyOf Tryz.f34) [encL tyK K, .clo 35 [] [.ptr 1 0]] (hm11 K L s)=
 (T.br (askS [AV.lst 5 (List.map tyK.elem K) Tl.open_,AV.clo (35:Nat) [] [AV.ptr 1 (0:Nat)],AV.int IntKind.i64 (↑(List.map tyK.elem K).length:Int),AV.int IntKind.i64 (0:Int)] [AV.lst 5 (List.map tyK.elem K) Tl.open_,AV.clo (35:Nat) [] [AV.ptr 1 (0:Nat)],AV.int IntKind.i64 (↑(List.map tyK.elem K).length:Int),AV.int IntKind.i64 (↑(0:Nat):Int)] [Blk.var [AV.lst 5 (List.map
 tyK.elem K) Tl.open_,AV.lst 3 (List.map tyT.elem L) Tl.open_],Blk.var [AV.str s]] [Blk.var [AV.lst 5 (List.map tyK.elem K) Tl.open_,AV.lst 3 (List.map tyT.elem L) Tl.open_],Blk.var [AV.str s]]) (T.leaf ((AV.int IntKind.i64 (↑i:Int),[Blk.var [AV.lst 5 (List.map tyK.elem K) Tl.open_,AV.lst 3 (List.map tyT.elem L) Tl.open_],Blk.var [AV.str s]]))) T.fail):=by kernel_rfl
theorem pv34n(K:List tyK.I)(L:List tyT.I)(s:ByteArray):runF Xv34 (kAt [1,0,1] (stv34 K 0) (hm11 K L s) .normal (stv34 K K.length) (hm11 K L s)) Tryz.f34 (bodyOf Tryz.f34) [encL tyK K, .clo 35 [] [.ptr 1 0]] (hm11 K L s)=
 (T.br (askS [AV.lst 5 (List.map tyK.elem K) Tl.open_,AV.clo (35:Nat) [] [AV.ptr 1 (0:Nat)],AV.int IntKind.i64 (↑(List.map tyK.elem K).length:Int),AV.int IntKind.i64 (0:Int)] [AV.lst 5 (List.map tyK.elem K) Tl.open_,AV.clo (35:Nat) [] [AV.ptr 1 (0:Nat)],AV.int IntKind.i64 (↑(List.map tyK.elem K).length:Int),AV.int IntKind.i64 (↑(0:Nat):Int)] [Blk.var [AV.lst 5 (List.map
 tyK.elem K) Tl.open_,AV.lst 3 (List.map tyT.elem L) Tl.open_],Blk.var [AV.str s]] [Blk.var [AV.lst 5 (List.map tyK.elem K) Tl.open_,AV.lst 3 (List.map tyT.elem L) Tl.open_],Blk.var [AV.str s]]) (T.leaf ((AV.int IntKind.i64 (-1),[Blk.var [AV.lst 5 (List.map tyK.elem K) Tl.open_,AV.lst 3 (List.map tyT.elem L) Tl.open_],Blk.var [AV.str s]]))) T.fail):=by kernel_rfl
noncomputable def Xv11(K:List tyK.I)(L:List tyT.I)(s:ByteArray)(r:Int):SX:={E:=E0,f:=11,con:=fun _=>false,split:=fun _=>false,call:=callsH [⟨34,[encL tyK K, .clo 35 [] [.ptr 1 0]],hm11 K L s, .int .i64 r,hm11 K L s⟩]}
theorem pv11(K:List tyK.I)(L:List tyT.I)(s:ByteArray)(r:Int):runV (Xv11 K L s r) (fun _=>none) Tryz.f11 (bodyOf Tryz.f11) [.agg [encL tyK K,encL tyT L], .str s]=
 (T.br (askS [AV.lst 5 (List.map tyK.elem K) Tl.open_,AV.clo (35:Nat) [] [AV.ptr 1 (0:Nat)]] [AV.lst 5 (List.map tyK.elem K) Tl.open_,AV.clo (35:Nat) [] [AV.ptr 1 (0:Nat)]] [Blk.var [AV.lst 5 (List.map tyK.elem K) Tl.open_,AV.lst 3 (List.map tyT.elem L) Tl.open_],Blk.var [AV.str s]] [Blk.var [AV.lst 5 (List.map tyK.elem K) Tl.open_,AV.lst 3 (List.map tyT.elem L) Tl.open_],Blk.var
 [AV.str s]]) (T.leaf (AV.int IntKind.i64 r)) T.fail):=by kernel_rfl
theorem callsv34:CallOK Xv34.E Xv34.calls:=callsRun_ok rfl fun r hr=>by
 obtain rfl:=List.mem_singleton.1 hr;exact⟨g0,noCalls fun _ _ _=>rfl,rfl,Tryz.func35,rfl,rfl⟩
theorem fxv34{K:List tyK.I}{L:List tyT.I}{s:ByteArray}: ∀x,x∈hm11 K L s→fxB 2 x:=fun x hx=>by
 simp only[hm11,List.mem_cons,List.not_mem_nil,or_false]at hx
 rcases hx with rfl|rfl
 ·exact fx9
 ·exact⟨nofun,fun _=>rfl⟩
theorem conv34(K:List tyK.I)(L:List tyT.I)(s:ByteArray)(hl:K.length<1000000000000000):Con E0 34 [encL tyK K, .clo 35 [] [.ptr 1 0]] (hm11 K L s) (.int .i64 (placeOf (firstI (fun j=>nmK (K.getD j tyK.zero)=s) K.length))) (hm11 K L s):=by
 have f0:fitsC Tryz.prog 37 (tyK.elem tyK.zero)=true:=by kernel_rfl
 have hsl: ∀(x:AV) (j:Nat),∀q,q∈stv34 K j→frm ([0,1,4,7,8].zip [encL tyK K, .clo 35 [] [.ptr 1 0],x, .int .i64 (((K.map tyK.elem).length:Nat):Int), .int .i64 j]) q.1=q.2∧fx 2 q.2∧isFsl q.2=false:=by
  intro x j q hq;simp only[stv34,List.mem_cons,List.not_mem_nil,or_false]at hq
  rcases hq with rfl|rfl|rfl|rfl
  ·exact⟨rfl,fx_L,rfl⟩
  all_goals exact⟨rfl,fun _=>rfl,rfl⟩
 exact find_fnH (X:=Xv34) g0 callsv34 (fn:=Tryz.f34) Tryz.func34 (c:=bodyOf Tryz.f34) rfl rfl (N:=19) rfl [1,0,1] (id:=0) (c0:=sub (bodyOf Tryz.f34) [1,0,1,0,0]) rfl (p:=fun j=>nmK (K.getD j tyK.zero)=s) (n:=K.length) (st:=stv34 K) (rt:=fun j=> [(4, .int .i64 j)])
  (fun j hj hp=>by
   have ht:=pv34 K L s (((K.map tyK.elem).length:Nat):Int) j
   have hp':decide (((tyK.elem (K.getD j tyK.zero)).cells.getD 0 undef).toS=s)=false:=decide_eq_false hp;rw[idx_ok hj f0,lt_ok hj,Int.toNat_natCast,getD_elem hj,wrap_next (by omega),hp']at ht
   exact Tri.seenX (extra:= [.var _]) g0 noG0 callsv34 (congrArg T.run ht) (Nat.le_refl _) fxv34 (hsl _ _))
  (fun j hj hp=>by
   have ht:=pv34 K L s (((K.map tyK.elem).length:Nat):Int) j
   have hp':decide (((tyK.elem (K.getD j tyK.zero)).cells.getD 0 undef).toS=s)=true:=decide_eq_true hp;rw[idx_ok hj f0,lt_ok hj,Int.toNat_natCast,getD_elem hj,hp']at ht
   exact Tri.seenX (extra:= [.var _]) g0 noG0 callsv34 (congrArg T.run ht) (Nat.le_refl _) fxv34 (fun q hq=>by obtain rfl:=List.mem_singleton.1 hq;exact⟨rfl,fun _=>rfl,rfl⟩))
  (by
   have ht:=pv34 K L s (((K.map tyK.elem).length:Nat):Int) K.length
   rw[lt_no]at ht
   exact Tri.seenX (extra:= []) g0 noG0 callsv34 (congrArg T.run ht) (Nat.le_refl _) fxv34 (hsl _ _))
  (fun i hi=>by rw[hi];exact(congrArg T.run (pv34s K L s i)).trans (bT (askS_self _ _) rfl)) (fun hi=>by rw[hi];exact(congrArg T.run (pv34n K L s)).trans (bT (askS_self _ _) rfl))
theorem conv11(K:List tyK.I)(L:List tyT.I)(s:ByteArray)(hl:K.length<1000000000000000)(h:H):Con E0 11 [tyB.elem (K,L), .str s] h (.int .i64 (placeOf (firstI (fun j=>nmK (K.getD j tyK.zero)=s) K.length))) h:=by
 have hn:noRefs [tyB.elem (K,L), .str s]=true:=by
  have:=noRefs1 tyB (K,L)
  simp only[noRefs,Bool.and_true]at this ⊢
  rw[this];rfl
 obtain⟨r,hr⟩: ∃r:Int,r=placeOf (firstI (fun j=>nmK (K.getD j tyK.zero)=s) K.length):=⟨_,rfl⟩;rw[←hr]
 have hcall:CallOK (Xv11 K L s r).E (Xv11 K L s r).calls:=callsH_ok rfl fun c hc=>by
  obtain rfl:=List.mem_singleton.1 hc;show Con E0 34 _ _ (.int .i64 r) _;rw[hr];exact conv34 K L s hl
 exact Con.pureV (X:=Xv11 K L s r) g0 noG0 hcall (fn:=Tryz.f11) Tryz.func11 (c:=bodyOf Tryz.f11) rfl rfl (args:= [tyB.elem (K,L), .str s]) KOK.none hn ((congrArg T.run (pv11 K L s r)).trans (bT (askS_self _ _) rfl)) (Le.refl _) rfl h
noncomputable def Xv36:SX:={E:=E0,f:=36,con:=fun _=>false,split:=fun d=> [9,16].contains d,call:=callsRun [(37,XN 37 [],Tryz.f37,bodyOf Tryz.f37)]}
def stv36(L:List tyT.I)(j:Nat):List (Nat×AV):= [(0,encL tyT L),(1, .clo 37 [] [.ptr 1 0]),(7, .int .i64 (((L.map tyT.elem).length:Nat):Int)),(8, .int .i64 j)]
theorem pv36(K:List tyK.I)(L:List tyT.I)(s:ByteArray)(m i:Int):obsK Xv36 (fun _=>none) 19 (sub (bodyOf Tryz.f36) [1,0,1,0,0]) [1,0,1,0,0] (frm [(0,encL tyT L),(1, .clo 37 [] [.ptr 1 0]),(7, .int .i64 m),(8, .int .i64 i)]) (hm11 K L s) [0,1,4,7,8]=
 (T.br (decide (i<m)) (T.br (decide ((0:Int)≤i)&&decide (i<(↑(List.map tyT.elem L).length:Int))&&fitsC Tryz.prog (44:Nat) ((List.map tyT.elem L).getD i.toNat undef)) (T.br (decide ((((List.map tyT.elem L).getD i.toNat undef).cells.getD 0 undef).toS=s)) (T.leaf ((X.ret,[AV.lst 3 (List.map tyT.elem L) Tl.open_,AV.clo 37 [] [AV.ptr 1 0],AV.int IntKind.i64 i,AV.int IntKind.i64 m,
 AV.int IntKind.i64 i],[Blk.var [AV.lst 5 (List.map tyK.elem K) Tl.open_,AV.lst 3 (List.map tyT.elem L) Tl.open_],Blk.var [AV.str s],Blk.var [AV.str (((List.map tyT.elem L).getD i.toNat undef).cells.getD 0 undef).toS,AV.lst 5 (((List.map tyT.elem L).getD i.toNat undef).cells.getD 1 undef).toL Tl.open_,AV.lst 4 (((List.map tyT.elem L).getD i.toNat undef).cells.getD 2 undef).toL Tl.open_]])))
 (T.leaf ((X.normal,[AV.lst 3 (List.map tyT.elem L) Tl.open_,AV.clo 37 [] [AV.ptr 1 0],AV.fsl 0 [],AV.int IntKind.i64 m,AV.int IntKind.i64 (IntKind.i64.wrap (i+1))],[Blk.var [AV.lst 5 (List.map tyK.elem K) Tl.open_,AV.lst 3 (List.map tyT.elem L) Tl.open_],Blk.var [AV.str s],Blk.var [AV.str (((List.map tyT.elem L).getD i.toNat undef).cells.getD 0 undef).toS,AV.lst 5 (((List.map tyT.elem
 L).getD i.toNat undef).cells.getD 1 undef).toL Tl.open_,AV.lst 4 (((List.map tyT.elem L).getD i.toNat undef).cells.getD 2 undef).toL Tl.open_]])))) T.fail) (T.leaf ((X.exit 0,[AV.lst 3 (List.map tyT.elem L) Tl.open_,AV.clo 37 [] [AV.ptr 1 0],AV.fsl 0 [],AV.int IntKind.i64 m,AV.int IntKind.i64 i],[Blk.var [AV.lst 5 (List.map tyK.elem K) Tl.open_,AV.lst 3 (List.map tyT.elem L) Tl.open_],
 Blk.var [AV.str s]])))):=by kernel_rfl
theorem pv36s(K:List tyK.I)(L:List tyT.I)(s:ByteArray)(i:Nat):runF Xv36 (kAt [1,0,1] (stv36 L 0) (hm11 K L s) .ret [(4, .int .i64 i)] (hm11 K L s)) Tryz.f36 (bodyOf Tryz.f36) [encL tyT L, .clo 37 [] [.ptr 1 0]] (hm11 K L s)=
 (T.br (askS [AV.lst 3 (List.map tyT.elem L) Tl.open_,AV.clo (37:Nat) [] [AV.ptr 1 (0:Nat)],AV.int IntKind.i64 (↑(List.map tyT.elem L).length:Int),AV.int IntKind.i64 (0:Int)] [AV.lst 3 (List.map tyT.elem L) Tl.open_,AV.clo (37:Nat) [] [AV.ptr 1 (0:Nat)],AV.int IntKind.i64 (↑(List.map tyT.elem L).length:Int),AV.int IntKind.i64 (↑(0:Nat):Int)] [Blk.var [AV.lst 5 (List.map
 tyK.elem K) Tl.open_,AV.lst 3 (List.map tyT.elem L) Tl.open_],Blk.var [AV.str s]] [Blk.var [AV.lst 5 (List.map tyK.elem K) Tl.open_,AV.lst 3 (List.map tyT.elem L) Tl.open_],Blk.var [AV.str s]]) (T.leaf ((AV.int IntKind.i64 (↑i:Int),[Blk.var [AV.lst 5 (List.map tyK.elem K) Tl.open_,AV.lst 3 (List.map tyT.elem L) Tl.open_],Blk.var [AV.str s]]))) T.fail):=by kernel_rfl
theorem pv36n(K:List tyK.I)(L:List tyT.I)(s:ByteArray):runF Xv36 (kAt [1,0,1] (stv36 L 0) (hm11 K L s) .normal (stv36 L L.length) (hm11 K L s)) Tryz.f36 (bodyOf Tryz.f36) [encL tyT L, .clo 37 [] [.ptr 1 0]] (hm11 K L s)=
 (T.br (askS [AV.lst 3 (List.map tyT.elem L) Tl.open_,AV.clo (37:Nat) [] [AV.ptr 1 (0:Nat)],AV.int IntKind.i64 (↑(List.map tyT.elem L).length:Int),AV.int IntKind.i64 (0:Int)] [AV.lst 3 (List.map tyT.elem L) Tl.open_,AV.clo (37:Nat) [] [AV.ptr 1 (0:Nat)],AV.int IntKind.i64 (↑(List.map tyT.elem L).length:Int),AV.int IntKind.i64 (↑(0:Nat):Int)] [Blk.var [AV.lst 5 (List.map
 tyK.elem K) Tl.open_,AV.lst 3 (List.map tyT.elem L) Tl.open_],Blk.var [AV.str s]] [Blk.var [AV.lst 5 (List.map tyK.elem K) Tl.open_,AV.lst 3 (List.map tyT.elem L) Tl.open_],Blk.var [AV.str s]]) (T.leaf ((AV.int IntKind.i64 (-1),[Blk.var [AV.lst 5 (List.map tyK.elem K) Tl.open_,AV.lst 3 (List.map tyT.elem L) Tl.open_],Blk.var [AV.str s]]))) T.fail):=by kernel_rfl
noncomputable def Xv13(K:List tyK.I)(L:List tyT.I)(s:ByteArray)(r:Int):SX:={E:=E0,f:=13,con:=fun _=>false,split:=fun _=>false,call:=callsH [⟨36,[encL tyT L, .clo 37 [] [.ptr 1 0]],hm11 K L s, .int .i64 r,hm11 K L s⟩]}
theorem pv13(K:List tyK.I)(L:List tyT.I)(s:ByteArray)(r:Int):runV (Xv13 K L s r) (fun _=>none) Tryz.f13 (bodyOf Tryz.f13) [.agg [encL tyK K,encL tyT L], .str s]=
 (T.br (askS [AV.lst 3 (List.map tyT.elem L) Tl.open_,AV.clo (37:Nat) [] [AV.ptr 1 (0:Nat)]] [AV.lst 3 (List.map tyT.elem L) Tl.open_,AV.clo (37:Nat) [] [AV.ptr 1 (0:Nat)]] [Blk.var [AV.lst 5 (List.map tyK.elem K) Tl.open_,AV.lst 3 (List.map tyT.elem L) Tl.open_],Blk.var [AV.str s]] [Blk.var [AV.lst 5 (List.map tyK.elem K) Tl.open_,AV.lst 3 (List.map tyT.elem L) Tl.open_],Blk.var
 [AV.str s]]) (T.leaf (AV.int IntKind.i64 r)) T.fail):=by kernel_rfl
theorem callsv36:CallOK Xv36.E Xv36.calls:=callsRun_ok rfl fun r hr=>by
 obtain rfl:=List.mem_singleton.1 hr;exact⟨g0,noCalls fun _ _ _=>rfl,rfl,Tryz.func37,rfl,rfl⟩
theorem fxv36{K:List tyK.I}{L:List tyT.I}{s:ByteArray}: ∀x,x∈hm11 K L s→fxB 2 x:=fun x hx=>by
 simp only[hm11,List.mem_cons,List.not_mem_nil,or_false]at hx
 rcases hx with rfl|rfl
 ·exact fx9
 ·exact⟨nofun,fun _=>rfl⟩
theorem conv36(K:List tyK.I)(L:List tyT.I)(s:ByteArray)(hl:L.length<1000000000000000):Con E0 36 [encL tyT L, .clo 37 [] [.ptr 1 0]] (hm11 K L s) (.int .i64 (placeOf (firstI (fun j=>nmT (L.getD j tyT.zero)=s) L.length))) (hm11 K L s):=by
 have f0:fitsC Tryz.prog 44 (tyT.elem tyT.zero)=true:=by kernel_rfl
 have hsl: ∀(x:AV) (j:Nat),∀q,q∈stv36 L j→frm ([0,1,4,7,8].zip [encL tyT L, .clo 37 [] [.ptr 1 0],x, .int .i64 (((L.map tyT.elem).length:Nat):Int), .int .i64 j]) q.1=q.2∧fx 2 q.2∧isFsl q.2=false:=by
  intro x j q hq;simp only[stv36,List.mem_cons,List.not_mem_nil,or_false]at hq
  rcases hq with rfl|rfl|rfl|rfl
  ·exact⟨rfl,fx_L,rfl⟩
  all_goals exact⟨rfl,fun _=>rfl,rfl⟩
 exact find_fnH (X:=Xv36) g0 callsv36 (fn:=Tryz.f36) Tryz.func36 (c:=bodyOf Tryz.f36) rfl rfl (N:=19) rfl [1,0,1] (id:=0) (c0:=sub (bodyOf Tryz.f36) [1,0,1,0,0]) rfl (p:=fun j=>nmT (L.getD j tyT.zero)=s) (n:=L.length) (st:=stv36 L) (rt:=fun j=> [(4, .int .i64 j)])
  (fun j hj hp=>by
   have ht:=pv36 K L s (((L.map tyT.elem).length:Nat):Int) j
   have hp':decide (((tyT.elem (L.getD j tyT.zero)).cells.getD 0 undef).toS=s)=false:=decide_eq_false hp;rw[idx_ok hj f0,lt_ok hj,Int.toNat_natCast,getD_elem hj,wrap_next (by omega),hp']at ht
   exact Tri.seenX (extra:= [.var _]) g0 noG0 callsv36 (congrArg T.run ht) (Nat.le_refl _) fxv36 (hsl _ _))
  (fun j hj hp=>by
   have ht:=pv36 K L s (((L.map tyT.elem).length:Nat):Int) j
   have hp':decide (((tyT.elem (L.getD j tyT.zero)).cells.getD 0 undef).toS=s)=true:=decide_eq_true hp;rw[idx_ok hj f0,lt_ok hj,Int.toNat_natCast,getD_elem hj,hp']at ht
   exact Tri.seenX (extra:= [.var _]) g0 noG0 callsv36 (congrArg T.run ht) (Nat.le_refl _) fxv36 (fun q hq=>by obtain rfl:=List.mem_singleton.1 hq;exact⟨rfl,fun _=>rfl,rfl⟩))
  (by
   have ht:=pv36 K L s (((L.map tyT.elem).length:Nat):Int) L.length
   rw[lt_no]at ht
   exact Tri.seenX (extra:= []) g0 noG0 callsv36 (congrArg T.run ht) (Nat.le_refl _) fxv36 (hsl _ _))
  (fun i hi=>by rw[hi];exact(congrArg T.run (pv36s K L s i)).trans (bT (askS_self _ _) rfl)) (fun hi=>by rw[hi];exact(congrArg T.run (pv36n K L s)).trans (bT (askS_self _ _) rfl))
theorem conv13(K:List tyK.I)(L:List tyT.I)(s:ByteArray)(hl:L.length<1000000000000000)(h:H):Con E0 13 [tyB.elem (K,L), .str s] h (.int .i64 (placeOf (firstI (fun j=>nmT (L.getD j tyT.zero)=s) L.length))) h:=by
 have hn:noRefs [tyB.elem (K,L), .str s]=true:=by
  have:=noRefs1 tyB (K,L)
  simp only[noRefs,Bool.and_true]at this ⊢
  rw[this];rfl
 obtain⟨r,hr⟩: ∃r:Int,r=placeOf (firstI (fun j=>nmT (L.getD j tyT.zero)=s) L.length):=⟨_,rfl⟩;rw[←hr]
 have hcall:CallOK (Xv13 K L s r).E (Xv13 K L s r).calls:=callsH_ok rfl fun c hc=>by
  obtain rfl:=List.mem_singleton.1 hc;show Con E0 36 _ _ (.int .i64 r) _;rw[hr];exact conv36 K L s hl
 exact Con.pureV (X:=Xv13 K L s r) g0 noG0 hcall (fn:=Tryz.f13) Tryz.func13 (c:=bodyOf Tryz.f13) rfl rfl (args:= [tyB.elem (K,L), .str s]) KOK.none hn ((congrArg T.run (pv13 K L s r)).trans (bT (askS_self _ _) rfl)) (Le.refl _) rfl h
def stv12(s:ByteArray)(j:Nat):List (Nat×AV):= [(1, .str s),(2, .ptr 0 0),(5, .int .i64 j)]
theorem pv12(K:List tyK.I)(L:List tyT.I)(s:ByteArray)(i:Int):obsK (XN 12 [10,20]) (fun _=>none) 22 (sub (bodyOf Tryz.f12) [1,0,1,0,0]) [1,0,1,0,0] (frm [(1, .str s),(2, .ptr 0 0),(5, .int .i64 i)]) [.var [encL tyK K,encL tyT L]] [1,2,4,5]=
 (T.br (decide (i<(↑(List.map tyK.elem K).length:Int))) (T.br (decide ((0:Int)≤i)&&decide (i<(↑(List.map tyK.elem K).length:Int))&&fitsC Tryz.prog (37:Nat) ((List.map tyK.elem K).getD i.toNat undef)) (T.br (decide ((((List.map tyK.elem K).getD i.toNat undef).cells.getD 0 undef).toS=s)) (T.leaf ((X.ret,[AV.str s,AV.ptr 0 0,AV.int IntKind.i64 i,AV.int IntKind.i64 i],[Blk.var
 [AV.lst 5 (List.map tyK.elem K) Tl.open_,AV.lst 3 (List.map tyT.elem L) Tl.open_]]))) (T.leaf ((X.normal,[AV.str s,AV.ptr 0 0,AV.fsl 0 [],AV.int IntKind.i64 (IntKind.i64.wrap (i+1))],[Blk.var [AV.lst 5 (List.map tyK.elem K) Tl.open_,AV.lst 3 (List.map tyT.elem L) Tl.open_]])))) T.fail) (T.leaf ((X.exit 0,[AV.str s,AV.ptr 0 0,AV.fsl 0 [],AV.int IntKind.i64 i],[Blk.var [AV.lst 5
 (List.map tyK.elem K) Tl.open_,AV.lst 3 (List.map tyT.elem L) Tl.open_]])))):=by kernel_rfl
theorem pv12s(K:List tyK.I)(L:List tyT.I)(s:ByteArray)(i:Nat):runV (XN 12 [10,20]) (kAt [1,0,1] (stv12 s 0) [.var [encL tyK K,encL tyT L]] .ret [(4, .int .i64 i)] []) Tryz.f12 (bodyOf Tryz.f12) [.agg [encL tyK K,encL tyT L], .str s]=
 (T.br (askS [AV.str s,AV.ptr 0 (0:Nat),AV.int IntKind.i64 (0:Int)] [AV.str s,AV.ptr 0 (0:Nat),AV.int IntKind.i64 (↑(0:Nat):Int)] [Blk.var [AV.lst 5 (List.map tyK.elem K) Tl.open_,AV.lst 3 (List.map tyT.elem L) Tl.open_]] [Blk.var [AV.lst 5 (List.map tyK.elem K) Tl.open_,AV.lst 3 (List.map tyT.elem L) Tl.open_]]) (T.leaf (AV.int IntKind.i64 (↑i:Int))) T.fail):=by kernel_rfl
theorem pv12n(K:List tyK.I)(L:List tyT.I)(s:ByteArray):runV (XN 12 [10,20]) (kAt [1,0,1] (stv12 s 0) [.var [encL tyK K,encL tyT L]] .normal (stv12 s K.length) [.var [encL tyK K,encL tyT L]]) Tryz.f12 (bodyOf Tryz.f12) [.agg [encL tyK K,encL tyT L], .str s]=
 (T.br (askS [AV.str s,AV.ptr 0 (0:Nat),AV.int IntKind.i64 (0:Int)] [AV.str s,AV.ptr 0 (0:Nat),AV.int IntKind.i64 (↑(0:Nat):Int)] [Blk.var [AV.lst 5 (List.map tyK.elem K) Tl.open_,AV.lst 3 (List.map tyT.elem L) Tl.open_]] [Blk.var [AV.lst 5 (List.map tyK.elem K) Tl.open_,AV.lst 3 (List.map tyT.elem L) Tl.open_]]) (T.leaf (AV.int IntKind.i64 (-1))) T.fail):=by kernel_rfl
theorem conv12(K:List tyK.I)(L:List tyT.I)(s:ByteArray)(hl:K.length<1000000000000000)(h:H):Con E0 12 [tyB.elem (K,L), .str s] h (.int .i64 (placeOf (firstI (fun j=>nmK (K.getD j tyK.zero)=s) K.length))) h:=by
 have hn:noRefs [tyB.elem (K,L), .str s]=true:=by
  have:=noRefs1 tyB (K,L)
  simp only[noRefs,Bool.and_true]at this ⊢
  rw[this];rfl
 have f0:fitsC Tryz.prog 37 (tyK.elem tyK.zero)=true:=by kernel_rfl
 have hfx: ∀x,x∈([.var [encL tyK K,encL tyT L]]:H)→fxB 1 x:=fun x hx=>by obtain rfl:=List.mem_singleton.1 hx;exact fx9
 have hsl: ∀(x:AV) (j:Nat),∀q,q∈stv12 s j→frm ([1,2,4,5].zip [.str s, .ptr 0 0,x, .int .i64 j]) q.1=q.2∧fx 1 q.2∧isFsl q.2=false:=by
  intro x j q hq;simp only[stv12,List.mem_cons,List.not_mem_nil,or_false]at hq
  rcases hq with rfl|rfl|rfl<;>exact⟨rfl,fun _=>rfl,rfl⟩
 exact find_fn (X:=XN 12 [10,20]) g0 noG0 (noCalls fun _ _ _=>rfl) (fn:=Tryz.f12) Tryz.func12 (c:=bodyOf Tryz.f12) rfl rfl (args:= [tyB.elem (K,L), .str s]) hn (N:=22) rfl [1,0,1] (id:=0) (c0:=sub (bodyOf Tryz.f12) [1,0,1,0,0]) rfl (p:=fun j=>nmK (K.getD j tyK.zero)=s) (n:=K.length) (st:=stv12 s) (hm:=fun _=> [.var [encL tyK K,encL tyT L]]) (hr:=fun _=> []) (rt:=fun j=> [(4, .int .i64 j)])
  (fun j hj _ hp=>by
   have ht:=pv12 K L s j
   have hp':decide (((tyK.elem (K.getD j tyK.zero)).cells.getD 0 undef).toS=s)=false:=decide_eq_false hp;rw[idx_ok hj f0,lt_ok hj,Int.toNat_natCast,getD_elem hj,wrap_next (by omega),hp']at ht
   exact Tri.seenX (X:=XN 12 [10,20]) (extra:= []) g0 noG0 (noCalls fun _ _ _=>rfl) (congrArg T.run ht) (Nat.zero_le _) hfx (hsl _ _))
  (fun j hj _ hp=>by
   have ht:=pv12 K L s j
   have hp':decide (((tyK.elem (K.getD j tyK.zero)).cells.getD 0 undef).toS=s)=true:=decide_eq_true hp;rw[idx_ok hj f0,lt_ok hj,Int.toNat_natCast,getD_elem hj,hp']at ht
   exact Tri.seenX (X:=XN 12 [10,20]) (h':= []) (extra:= [.var [encL tyK K,encL tyT L]]) g0 noG0 (noCalls fun _ _ _=>rfl) (congrArg T.run ht) (Nat.zero_le _) nofun (fun q hq=>by obtain rfl:=List.mem_singleton.1 hq;exact⟨rfl,fun _=>rfl,rfl⟩))
  (by
   have ht:=pv12 K L s K.length
   rw[lt_no]at ht
   exact Tri.seenX (X:=XN 12 [10,20]) (extra:= []) g0 noG0 (noCalls fun _ _ _=>rfl) (congrArg T.run ht) (Nat.zero_le _) hfx (hsl _ _))
  (by cases firstI (fun j=>nmK (K.getD j tyK.zero)=s) K.length<;>rfl) (fun i hi=>by rw[hi];exact(congrArg T.run (pv12s K L s i)).trans (bT (askS_self _ _) rfl)) (fun hi=>by rw[hi];exact(congrArg T.run (pv12n K L s)).trans (bT (askS_self _ _) rfl)) h
def stv14(s:ByteArray)(j:Nat):List (Nat×AV):= [(1, .str s),(2, .ptr 0 0),(5, .int .i64 j)]
theorem pv14(K:List tyK.I)(L:List tyT.I)(s:ByteArray)(i:Int):obsK (XN 14 [10,20]) (fun _=>none) 22 (sub (bodyOf Tryz.f14) [1,0,1,0,0]) [1,0,1,0,0] (frm [(1, .str s),(2, .ptr 0 0),(5, .int .i64 i)]) [.var [encL tyK K,encL tyT L]] [1,2,4,5]=
 (T.br (decide (i<(↑(List.map tyT.elem L).length:Int))) (T.br (decide ((0:Int)≤i)&&decide (i<(↑(List.map tyT.elem L).length:Int))&&fitsC Tryz.prog (44:Nat) ((List.map tyT.elem L).getD i.toNat undef)) (T.br (decide ((((List.map tyT.elem L).getD i.toNat undef).cells.getD 0 undef).toS=s)) (T.leaf ((X.ret,[AV.str s,AV.ptr 0 0,AV.int IntKind.i64 i,AV.int IntKind.i64 i],[Blk.var
 [AV.lst 5 (List.map tyK.elem K) Tl.open_,AV.lst 3 (List.map tyT.elem L) Tl.open_]]))) (T.leaf ((X.normal,[AV.str s,AV.ptr 0 0,AV.fsl 0 [],AV.int IntKind.i64 (IntKind.i64.wrap (i+1))],[Blk.var [AV.lst 5 (List.map tyK.elem K) Tl.open_,AV.lst 3 (List.map tyT.elem L) Tl.open_]])))) T.fail) (T.leaf ((X.exit 0,[AV.str s,AV.ptr 0 0,AV.fsl 0 [],AV.int IntKind.i64 i],[Blk.var [AV.lst 5
 (List.map tyK.elem K) Tl.open_,AV.lst 3 (List.map tyT.elem L) Tl.open_]])))):=by kernel_rfl
theorem pv14s(K:List tyK.I)(L:List tyT.I)(s:ByteArray)(i:Nat):runV (XN 14 [10,20]) (kAt [1,0,1] (stv14 s 0) [.var [encL tyK K,encL tyT L]] .ret [(4, .int .i64 i)] []) Tryz.f14 (bodyOf Tryz.f14) [.agg [encL tyK K,encL tyT L], .str s]=
 (T.br (askS [AV.str s,AV.ptr 0 (0:Nat),AV.int IntKind.i64 (0:Int)] [AV.str s,AV.ptr 0 (0:Nat),AV.int IntKind.i64 (↑(0:Nat):Int)] [Blk.var [AV.lst 5 (List.map tyK.elem K) Tl.open_,AV.lst 3 (List.map tyT.elem L) Tl.open_]] [Blk.var [AV.lst 5 (List.map tyK.elem K) Tl.open_,AV.lst 3 (List.map tyT.elem L) Tl.open_]]) (T.leaf (AV.int IntKind.i64 (↑i:Int))) T.fail):=by kernel_rfl
theorem pv14n(K:List tyK.I)(L:List tyT.I)(s:ByteArray):runV (XN 14 [10,20]) (kAt [1,0,1] (stv14 s 0) [.var [encL tyK K,encL tyT L]] .normal (stv14 s L.length) [.var [encL tyK K,encL tyT L]]) Tryz.f14 (bodyOf Tryz.f14) [.agg [encL tyK K,encL tyT L], .str s]=
 (T.br (askS [AV.str s,AV.ptr 0 (0:Nat),AV.int IntKind.i64 (0:Int)] [AV.str s,AV.ptr 0 (0:Nat),AV.int IntKind.i64 (↑(0:Nat):Int)] [Blk.var [AV.lst 5 (List.map tyK.elem K) Tl.open_,AV.lst 3 (List.map tyT.elem L) Tl.open_]] [Blk.var [AV.lst 5 (List.map tyK.elem K) Tl.open_,AV.lst 3 (List.map tyT.elem L) Tl.open_]]) (T.leaf (AV.int IntKind.i64 (-1))) T.fail):=by kernel_rfl
theorem conv14(K:List tyK.I)(L:List tyT.I)(s:ByteArray)(hl:L.length<1000000000000000)(h:H):Con E0 14 [tyB.elem (K,L), .str s] h (.int .i64 (placeOf (firstI (fun j=>nmT (L.getD j tyT.zero)=s) L.length))) h:=by
 have hn:noRefs [tyB.elem (K,L), .str s]=true:=by
  have:=noRefs1 tyB (K,L)
  simp only[noRefs,Bool.and_true]at this ⊢
  rw[this];rfl
 have f0:fitsC Tryz.prog 44 (tyT.elem tyT.zero)=true:=by kernel_rfl
 have hfx: ∀x,x∈([.var [encL tyK K,encL tyT L]]:H)→fxB 1 x:=fun x hx=>by obtain rfl:=List.mem_singleton.1 hx;exact fx9
 have hsl: ∀(x:AV) (j:Nat),∀q,q∈stv14 s j→frm ([1,2,4,5].zip [.str s, .ptr 0 0,x, .int .i64 j]) q.1=q.2∧fx 1 q.2∧isFsl q.2=false:=by
  intro x j q hq;simp only[stv14,List.mem_cons,List.not_mem_nil,or_false]at hq
  rcases hq with rfl|rfl|rfl<;>exact⟨rfl,fun _=>rfl,rfl⟩
 exact find_fn (X:=XN 14 [10,20]) g0 noG0 (noCalls fun _ _ _=>rfl) (fn:=Tryz.f14) Tryz.func14 (c:=bodyOf Tryz.f14) rfl rfl (args:= [tyB.elem (K,L), .str s]) hn (N:=22) rfl [1,0,1] (id:=0) (c0:=sub (bodyOf Tryz.f14) [1,0,1,0,0]) rfl (p:=fun j=>nmT (L.getD j tyT.zero)=s) (n:=L.length) (st:=stv14 s) (hm:=fun _=> [.var [encL tyK K,encL tyT L]]) (hr:=fun _=> []) (rt:=fun j=> [(4, .int .i64 j)])
  (fun j hj _ hp=>by
   have ht:=pv14 K L s j
   have hp':decide (((tyT.elem (L.getD j tyT.zero)).cells.getD 0 undef).toS=s)=false:=decide_eq_false hp;rw[idx_ok hj f0,lt_ok hj,Int.toNat_natCast,getD_elem hj,wrap_next (by omega),hp']at ht
   exact Tri.seenX (X:=XN 14 [10,20]) (extra:= []) g0 noG0 (noCalls fun _ _ _=>rfl) (congrArg T.run ht) (Nat.zero_le _) hfx (hsl _ _))
  (fun j hj _ hp=>by
   have ht:=pv14 K L s j
   have hp':decide (((tyT.elem (L.getD j tyT.zero)).cells.getD 0 undef).toS=s)=true:=decide_eq_true hp;rw[idx_ok hj f0,lt_ok hj,Int.toNat_natCast,getD_elem hj,hp']at ht
   exact Tri.seenX (X:=XN 14 [10,20]) (h':= []) (extra:= [.var [encL tyK K,encL tyT L]]) g0 noG0 (noCalls fun _ _ _=>rfl) (congrArg T.run ht) (Nat.zero_le _) nofun (fun q hq=>by obtain rfl:=List.mem_singleton.1 hq;exact⟨rfl,fun _=>rfl,rfl⟩))
  (by
   have ht:=pv14 K L s L.length
   rw[lt_no]at ht
   exact Tri.seenX (X:=XN 14 [10,20]) (extra:= []) g0 noG0 (noCalls fun _ _ _=>rfl) (congrArg T.run ht) (Nat.zero_le _) hfx (hsl _ _))
  (by cases firstI (fun j=>nmT (L.getD j tyT.zero)=s) L.length<;>rfl) (fun i hi=>by rw[hi];exact(congrArg T.run (pv14s K L s i)).trans (bT (askS_self _ _) rfl)) (fun hi=>by rw[hi];exact(congrArg T.run (pv14n K L s)).trans (bT (askS_self _ _) rfl)) h
def encBS(p:tyB.I×ByteArray):List AV:= [tyB.elem p.1, .str p.2]
def encTI(p:tyT.I×Int):List AV:= [tyT.elem p.1, .int .i64 p.2]
noncomputable def classQ:List AV→Int:=pick 0 encBS fun p=>placeOf (firstI (fun j=>nmK (p.1.1.getD j tyK.zero)=p.2) p.1.1.length)
noncomputable def turnQ:List AV→Int:=pick 0 encBS fun p=>placeOf (firstI (fun j=>nmT (p.1.2.getD j tyT.zero)=p.2) p.1.2.length)
noncomputable def constQ:List AV→Int:=pick 0 (fun L:List tyC.I=> [encL tyC L]) poolE
noncomputable def moveQ:List AV→Int:=pick 0 encTI fun p=>moveE (csT p.1) (mvT p.1) p.2.toNat
def okBS(args:List AV):Prop:= ∃(K:List tyK.I) (L:List tyT.I) (s:ByteArray),args= [tyB.elem (K,L), .str s]∧K.length<1000000000000000∧L.length<1000000000000000
def okC1(args:List AV):Prop:= ∃L:List tyC.I,args= [encL tyC L]∧L.length<1000000000000000∧ ∀x,x∈L→tyC.okay x
def okTM(args:List AV):Prop:= ∃(t:tyT.I) (i:Nat),args= [tyT.elem t, .int .i64 i]∧tyT.okay t∧i<(mvT t).length
noncomputable def clKx(f:FuncId):Cl:=⟨f,okBS,fun args=> .int .i64 (classQ args)⟩
noncomputable def clTx(f:FuncId):Cl:=⟨f,okBS,fun args=> .int .i64 (turnQ args)⟩
noncomputable def clCo(f:FuncId):Cl:=⟨f,okC1,fun args=> .int .i64 (constQ args)⟩
noncomputable def clMo(f:FuncId):Cl:=⟨f,okTM,fun args=> .int .i64 (moveQ args)⟩
noncomputable def cs10l:List Cl:= [clKx 12]
noncomputable def cs10:List Cl:= [clKx 12,clRt 31,clTx 14,clCo 32,clMo 33]
noncomputable def E10:Env:={E0 with C:=lightC cs10l,LC:=fun f=>f==12}
noncomputable def X10r:SX:={E:=E10,f:=10,con:=fun _=>false,split:=fun d=> [13,18,28,39,43,48,60,66,71,76,81,88].contains d,call:=callsBy cs10,lit:=fun f=>f==12}
def st10a(j:Nat):List (Nat×AV):= [(1, .ptr 0 0),(3, .int .i64 j)]
def st10b(j:Nat):List (Nat×AV):= [(1, .ptr 0 0),(5, .int .i64 j)]
def st10m(i j:Nat):List (Nat×AV):= [(1, .ptr 0 0),(5, .int .i64 i),(6, .ptr 1 0),(8, .int .i64 j)]
def hm10(K:List tyK.I)(L:List tyT.I):H:= [.var [encL tyK K,encL tyT L]]
def hm10m(K:List tyK.I)(L:List tyT.I)(t0:ByteArray)(t1:List tyC.I)(t2:List tyV.I):H:= [.var [encL tyK K,encL tyT L], .var [.str t0,encL tyC t1,encL tyV t2]]
theorem p10a(K:List tyK.I)(L:List tyT.I)(i:Int):obsK X10r (fun _=>none) 90 (sub (bodyOf Tryz.f10) [1,1,0,1,0,0]) [1,1,0,1,0,0] (frm [(1, .ptr 0 0),(3, .int .i64 i)]) (hm10 K L) [1,2,3]=
 (T.br (decide (i<(↑(List.map tyK.elem K).length:Int))) (T.br (decide ((0:Int)≤i)&&decide (i<(↑(List.map tyK.elem K).length:Int))&&fitsC Tryz.prog (37:Nat) ((List.map tyK.elem K).getD i.toNat undef)) (T.br (askQ (okE1 tyK) [AV.agg [AV.str (((List.map tyK.elem K).getD i.toNat undef).cells.getD 0 undef).toS,AV.str (((List.map tyK.elem K).getD i.toNat undef).cells.getD 1 undef).toS,
 AV.lst 5 (((List.map tyK.elem K).getD i.toNat undef).cells.getD 2 undef).toL Tl.open_,AV.lst 2 (((List.map tyK.elem K).getD i.toNat undef).cells.getD 3 undef).toL Tl.open_,AV.lst 5 (((List.map tyK.elem K).getD i.toNat undef).cells.getD 4 undef).toL Tl.open_]]) (T.br (!decide (rightQ [AV.agg [AV.str (((List.map tyK.elem K).getD i.toNat undef).cells.getD 0 undef).toS,AV.str (((List.map tyK.elem
 K).getD i.toNat undef).cells.getD 1 undef).toS,AV.lst 5 (((List.map tyK.elem K).getD i.toNat undef).cells.getD 2 undef).toL Tl.open_,AV.lst 2 (((List.map tyK.elem K).getD i.toNat undef).cells.getD 3 undef).toL Tl.open_,AV.lst 5 (((List.map tyK.elem K).getD i.toNat undef).cells.getD 4 undef).toL Tl.open_]]=(0:Int))) (T.leaf ((X.ret,[AV.ptr 0 0,AV.int IntKind.i64 (rightQ [AV.agg [AV.str
 (((List.map tyK.elem K).getD i.toNat undef).cells.getD 0 undef).toS,AV.str (((List.map tyK.elem K).getD i.toNat undef).cells.getD 1 undef).toS,AV.lst 5 (((List.map tyK.elem K).getD i.toNat undef).cells.getD 2 undef).toL Tl.open_,AV.lst 2 (((List.map tyK.elem K).getD i.toNat undef).cells.getD 3 undef).toL Tl.open_,AV.lst 5 (((List.map tyK.elem K).getD i.toNat undef).cells.getD 4 undef).toL
 Tl.open_]]),AV.int IntKind.i64 i],[Blk.var [AV.lst 5 (List.map tyK.elem K) Tl.open_,AV.lst 3 (List.map tyT.elem L) Tl.open_]]))) (T.br (decide ((0:Int)≤i)&&decide (i<(↑(List.map tyK.elem K).length:Int))&&fitsC Tryz.prog (37:Nat) ((List.map tyK.elem K).getD i.toNat undef)) (T.br (askQ (clKx (12:FuncId)).2 [AV.agg [AV.lst 5 (List.map tyK.elem K) Tl.open_,AV.lst 3 (List.map
 tyT.elem L) Tl.open_],AV.str (((List.map tyK.elem K).getD i.toNat undef).cells.getD 0 undef).toS]) (T.br (askL E10 (12:Nat) [AV.agg [AV.lst 5 (List.map tyK.elem K) Tl.open_,AV.lst 3 (List.map tyT.elem L) Tl.open_],AV.str (((List.map tyK.elem K).getD i.toNat undef).cells.getD 0 undef).toS] (AV.int IntKind.i64 (classQ [AV.agg [AV.lst 5 (List.map tyK.elem K) Tl.open_,AV.lst 3 (List.map tyT.elem
 L) Tl.open_],AV.str (((List.map tyK.elem K).getD i.toNat undef).cells.getD 0 undef).toS]))) (T.br (decide (classQ [AV.agg [AV.lst 5 (List.map tyK.elem K) Tl.open_,AV.lst 3 (List.map tyT.elem L) Tl.open_],AV.str (((List.map tyK.elem K).getD i.toNat undef).cells.getD 0 undef).toS]<i)) (T.leaf ((X.ret,[AV.ptr 0 0,AV.int IntKind.i64 8,AV.int IntKind.i64 i],[Blk.var [AV.lst 5 (List.map tyK.elem
 K) Tl.open_,AV.lst 3 (List.map tyT.elem L) Tl.open_]]))) (T.leaf ((X.normal,[AV.ptr 0 0,AV.fsl 0 [],AV.int IntKind.i64 (IntKind.i64.wrap (i+1))],[Blk.var [AV.lst 5 (List.map tyK.elem K) Tl.open_,AV.lst 3 (List.map tyT.elem L) Tl.open_]])))) T.fail) T.fail) T.fail)) T.fail) T.fail) (T.leaf ((X.exit 0,[AV.ptr 0 0,AV.fsl 0 [],AV.int IntKind.i64 i],[Blk.var [AV.lst 5 (List.map tyK.elem K)
 Tl.open_,AV.lst 3 (List.map tyT.elem L) Tl.open_]])))):=by kernel_rfl
theorem p10m(K:List tyK.I)(L:List tyT.I)(t0:ByteArray)(t1:List tyC.I)(t2:List tyV.I)(i k:Int):obsK X10r (fun _=>none) 90 (sub (bodyOf Tryz.f10) [1,1,1,1,0,1,0,0,1,0,0,1,1,1,1,1,1,1,0,0]) [1,1,1,1,0,1,0,0,1,0,0,1,1,1,1,1,1,1,0,0] (frm [(1, .ptr 0 0),(5, .int .i64 i),(6, .ptr 1 0),(8, .int .i64 k)]) (hm10m K L t0 t1 t2) [1,2,5,6,8]=
 (T.br (decide (k<(↑(List.map tyV.elem t2).length:Int))) (T.br (askQ okTM [AV.agg [AV.str t0,AV.lst 5 (List.map tyC.elem t1) Tl.open_,AV.lst 4 (List.map tyV.elem t2) Tl.open_],AV.int IntKind.i64 k]) (T.br (!decide (moveQ [AV.agg [AV.str t0,AV.lst 5 (List.map tyC.elem t1) Tl.open_,AV.lst 4 (List.map tyV.elem t2) Tl.open_],AV.int IntKind.i64 k]=(0:Int))) (T.leaf ((X.ret,[AV.ptr 0 0,
 AV.int IntKind.i64 (moveQ [AV.agg [AV.str t0,AV.lst 5 (List.map tyC.elem t1) Tl.open_,AV.lst 4 (List.map tyV.elem t2) Tl.open_],AV.int IntKind.i64 k]),AV.int IntKind.i64 i,AV.ptr 1 0,AV.int IntKind.i64 k],[Blk.var [AV.lst 5 (List.map tyK.elem K) Tl.open_,AV.lst 3 (List.map tyT.elem L) Tl.open_],Blk.var [AV.str t0,AV.lst 5 (List.map tyC.elem t1) Tl.open_,AV.lst 4 (List.map tyV.elem t2)
 Tl.open_]]))) (T.leaf ((X.normal,[AV.ptr 0 0,AV.fsl 0 [],AV.int IntKind.i64 i,AV.ptr 1 0,AV.int IntKind.i64 (IntKind.i64.wrap (k+1))],[Blk.var [AV.lst 5 (List.map tyK.elem K) Tl.open_,AV.lst 3 (List.map tyT.elem L) Tl.open_],Blk.var [AV.str t0,AV.lst 5 (List.map tyC.elem t1) Tl.open_,AV.lst 4 (List.map tyV.elem t2) Tl.open_]])))) T.fail) (T.leaf ((X.exit 4,[AV.ptr 0 0,AV.fsl 0 [],
 AV.int IntKind.i64 i,AV.ptr 1 0,AV.int IntKind.i64 k],[Blk.var [AV.lst 5 (List.map tyK.elem K) Tl.open_,AV.lst 3 (List.map tyT.elem L) Tl.open_],Blk.var [AV.str t0,AV.lst 5 (List.map tyC.elem t1) Tl.open_,AV.lst 4 (List.map tyV.elem t2) Tl.open_]])))):=by kernel_rfl
theorem p10br(K:List tyK.I)(L:List tyT.I)(t0:ByteArray)(t1:List tyC.I)(t2:List tyV.I)(e:Int)(i:Nat):obsK X10r (kAt [1,1,1,1,0,1,0,0,1,0,0,1,1,1,1,1,1,1] (st10m i 0) (hm10m K L t0 t1 t2) .ret [(2, .int .i64 e)] []) 90 (sub (bodyOf Tryz.f10) [1,1,1,1,0,1,0,0]) [1,1,1,1,0,1,0,0] (frm (st10b i)) (hm10 K L) [1,2,5]=
 (T.br (decide ((↑i:Int)<(↑(List.map tyT.elem L).length:Int))) (T.br (decide ((0:Int)≤(↑i:Int))&&decide ((↑i:Int)<(↑(List.map tyT.elem L).length:Int))&&fitsC Tryz.prog (44:Nat) ((List.map tyT.elem L).getD (↑i:Int).toNat undef)) (T.br (askQ (clKx (12:FuncId)).2 [AV.agg [AV.lst 5 (List.map tyK.elem K) Tl.open_,AV.lst 3 (List.map tyT.elem L) Tl.open_],AV.str (((List.map
 tyT.elem L).getD (↑i:Int).toNat undef).cells.getD 0 undef).toS]) (T.br (askL E10 (12:Nat) [AV.agg [AV.lst 5 (List.map tyK.elem K) Tl.open_,AV.lst 3 (List.map tyT.elem L) Tl.open_],AV.str (((List.map tyT.elem L).getD (↑i:Int).toNat undef).cells.getD 0 undef).toS] (AV.int IntKind.i64 (classQ [AV.agg [AV.lst 5 (List.map tyK.elem K) Tl.open_,AV.lst 3 (List.map tyT.elem L) Tl.open_],AV.str
 (((List.map tyT.elem L).getD (↑i:Int).toNat undef).cells.getD 0 undef).toS]))) (T.br (decide (classQ [AV.agg [AV.lst 5 (List.map tyK.elem K) Tl.open_,AV.lst 3 (List.map tyT.elem L) Tl.open_],AV.str (((List.map tyT.elem L).getD (↑i:Int).toNat undef).cells.getD 0 undef).toS]<(0:Int))) (T.leaf ((X.ret,[AV.ptr 0 0,AV.int IntKind.i64 9,AV.int IntKind.i64 (↑i:Int)],[Blk.var [AV.lst 5
 (List.map tyK.elem K) Tl.open_,AV.lst 3 (List.map tyT.elem L) Tl.open_],Blk.var [AV.str (((List.map tyT.elem L).getD (↑i:Int).toNat undef).cells.getD 0 undef).toS,AV.lst 5 (((List.map tyT.elem L).getD (↑i:Int).toNat undef).cells.getD 1 undef).toL Tl.open_,AV.lst 4 (((List.map tyT.elem L).getD (↑i:Int).toNat undef).cells.getD 2 undef).toL Tl.open_]]))) (T.br (askQ (clTx (14:FuncId)).2
 [AV.agg [AV.lst 5 (List.map tyK.elem K) Tl.open_,AV.lst 3 (List.map tyT.elem L) Tl.open_],AV.str (((List.map tyT.elem L).getD (↑i:Int).toNat undef).cells.getD 0 undef).toS]) (T.br (decide (turnQ [AV.agg [AV.lst 5 (List.map tyK.elem K) Tl.open_,AV.lst 3 (List.map tyT.elem L) Tl.open_],AV.str (((List.map tyT.elem L).getD (↑i:Int).toNat undef).cells.getD 0 undef).toS]<(↑i:Int))) (T.leaf
 ((X.ret,[AV.ptr 0 0,AV.int IntKind.i64 8,AV.int IntKind.i64 (↑i:Int)],[Blk.var [AV.lst 5 (List.map tyK.elem K) Tl.open_,AV.lst 3 (List.map tyT.elem L) Tl.open_],Blk.var [AV.str (((List.map tyT.elem L).getD (↑i:Int).toNat undef).cells.getD 0 undef).toS,AV.lst 5 (((List.map tyT.elem L).getD (↑i:Int).toNat undef).cells.getD 1 undef).toL Tl.open_,AV.lst 4 (((List.map tyT.elem L).getD (↑i
 :Int).toNat undef).cells.getD 2 undef).toL Tl.open_]]))) (T.br (askQ okC1 [AV.lst 5 (((List.map tyT.elem L).getD (↑i:Int).toNat undef).cells.getD 1 undef).toL Tl.open_]) (T.br (!decide (constQ [AV.lst 5 (((List.map tyT.elem L).getD (↑i:Int).toNat undef).cells.getD 1 undef).toL Tl.open_]=(0:Int))) (T.leaf ((X.ret,[AV.ptr 0 0,AV.int IntKind.i64 (constQ [AV.lst 5 (((List.map tyT.elem
 L).getD (↑i:Int).toNat undef).cells.getD 1 undef).toL Tl.open_]),AV.int IntKind.i64 (↑i:Int)],[Blk.var [AV.lst 5 (List.map tyK.elem K) Tl.open_,AV.lst 3 (List.map tyT.elem L) Tl.open_],Blk.var [AV.str (((List.map tyT.elem L).getD (↑i:Int).toNat undef).cells.getD 0 undef).toS,AV.lst 5 (((List.map tyT.elem L).getD (↑i:Int).toNat undef).cells.getD 1 undef).toL Tl.open_,AV.lst 4
 (((List.map tyT.elem L).getD (↑i:Int).toNat undef).cells.getD 2 undef).toL Tl.open_]]))) (T.br (decide ((16:Int)<(↑(((List.map tyT.elem L).getD (↑i:Int).toNat undef).cells.getD 2 undef).toL.length:Int))) (T.leaf ((X.ret,[AV.ptr 0 0,AV.int IntKind.i64 6,AV.int IntKind.i64 (↑i:Int)],[Blk.var [AV.lst 5 (List.map tyK.elem K) Tl.open_,AV.lst 3 (List.map tyT.elem L) Tl.open_],Blk.var
 [AV.str (((List.map tyT.elem L).getD (↑i:Int).toNat undef).cells.getD 0 undef).toS,AV.lst 5 (((List.map tyT.elem L).getD (↑i:Int).toNat undef).cells.getD 1 undef).toL Tl.open_,AV.lst 4 (((List.map tyT.elem L).getD (↑i:Int).toNat undef).cells.getD 2 undef).toL Tl.open_]]))) (T.br (askS [AV.ptr 0 (0:Nat),AV.int IntKind.i64 (↑i:Int),AV.ptr 1 (0:Nat),AV.int IntKind.i64 (0:Int)]
 [AV.ptr 0 (0:Nat),AV.int IntKind.i64 (↑i:Int),AV.ptr 1 (0:Nat),AV.int IntKind.i64 (↑(0:Nat):Int)] [Blk.var [AV.lst 5 (List.map tyK.elem K) Tl.open_,AV.lst 3 (List.map tyT.elem L) Tl.open_],Blk.var [AV.str (((List.map tyT.elem L).getD (↑i:Int).toNat undef).cells.getD 0 undef).toS,AV.lst 5 (((List.map tyT.elem L).getD (↑i:Int).toNat undef).cells.getD 1 undef).toL Tl.open_,AV.lst
 4 (((List.map tyT.elem L).getD (↑i:Int).toNat undef).cells.getD 2 undef).toL Tl.open_]] [Blk.var [AV.lst 5 (List.map tyK.elem K) Tl.open_,AV.lst 3 (List.map tyT.elem L) Tl.open_],Blk.var [AV.str t0,AV.lst 5 (List.map tyC.elem t1) Tl.open_,AV.lst 4 (List.map tyV.elem t2) Tl.open_]]) (T.leaf ((X.ret,[AV.fsl 0 [],AV.int IntKind.i64 e,AV.fsl 0 []],[]))) T.fail))) T.fail)) T.fail)) T.fail)
 T.fail) T.fail) (T.leaf ((X.exit 2,[AV.ptr 0 0,AV.fsl 0 [],AV.int IntKind.i64 (↑i:Int)],[Blk.var [AV.lst 5 (List.map tyK.elem K) Tl.open_,AV.lst 3 (List.map tyT.elem L) Tl.open_]])))):=by kernel_rfl
theorem p10bn(K:List tyK.I)(L:List tyT.I)(t0:ByteArray)(t1:List tyC.I)(t2:List tyV.I)(i:Nat):obsK X10r (kAt [1,1,1,1,0,1,0,0,1,0,0,1,1,1,1,1,1,1] (st10m i 0) (hm10m K L t0 t1 t2) .normal [(1, .ptr 0 0),(5, .int .i64 i)] (hm10m K L t0 t1 t2)) 90 (sub (bodyOf Tryz.f10) [1,1,1,1,0,1,0,0]) [1,1,1,1,0,1,0,0] (frm (st10b i)) (hm10 K L) [1,2,5]=
 (T.br (decide ((↑i:Int)<(↑(List.map tyT.elem L).length:Int))) (T.br (decide ((0:Int)≤(↑i:Int))&&decide ((↑i:Int)<(↑(List.map tyT.elem L).length:Int))&&fitsC Tryz.prog (44:Nat) ((List.map tyT.elem L).getD (↑i:Int).toNat undef)) (T.br (askQ (clKx (12:FuncId)).2 [AV.agg [AV.lst 5 (List.map tyK.elem K) Tl.open_,AV.lst 3 (List.map tyT.elem L) Tl.open_],AV.str (((List.map
 tyT.elem L).getD (↑i:Int).toNat undef).cells.getD 0 undef).toS]) (T.br (askL E10 (12:Nat) [AV.agg [AV.lst 5 (List.map tyK.elem K) Tl.open_,AV.lst 3 (List.map tyT.elem L) Tl.open_],AV.str (((List.map tyT.elem L).getD (↑i:Int).toNat undef).cells.getD 0 undef).toS] (AV.int IntKind.i64 (classQ [AV.agg [AV.lst 5 (List.map tyK.elem K) Tl.open_,AV.lst 3 (List.map tyT.elem L) Tl.open_],AV.str
 (((List.map tyT.elem L).getD (↑i:Int).toNat undef).cells.getD 0 undef).toS]))) (T.br (decide (classQ [AV.agg [AV.lst 5 (List.map tyK.elem K) Tl.open_,AV.lst 3 (List.map tyT.elem L) Tl.open_],AV.str (((List.map tyT.elem L).getD (↑i:Int).toNat undef).cells.getD 0 undef).toS]<(0:Int))) (T.leaf ((X.ret,[AV.ptr 0 0,AV.int IntKind.i64 9,AV.int IntKind.i64 (↑i:Int)],[Blk.var [AV.lst 5
 (List.map tyK.elem K) Tl.open_,AV.lst 3 (List.map tyT.elem L) Tl.open_],Blk.var [AV.str (((List.map tyT.elem L).getD (↑i:Int).toNat undef).cells.getD 0 undef).toS,AV.lst 5 (((List.map tyT.elem L).getD (↑i:Int).toNat undef).cells.getD 1 undef).toL Tl.open_,AV.lst 4 (((List.map tyT.elem L).getD (↑i:Int).toNat undef).cells.getD 2 undef).toL Tl.open_]]))) (T.br (askQ (clTx (14:FuncId)).2
 [AV.agg [AV.lst 5 (List.map tyK.elem K) Tl.open_,AV.lst 3 (List.map tyT.elem L) Tl.open_],AV.str (((List.map tyT.elem L).getD (↑i:Int).toNat undef).cells.getD 0 undef).toS]) (T.br (decide (turnQ [AV.agg [AV.lst 5 (List.map tyK.elem K) Tl.open_,AV.lst 3 (List.map tyT.elem L) Tl.open_],AV.str (((List.map tyT.elem L).getD (↑i:Int).toNat undef).cells.getD 0 undef).toS]<(↑i:Int))) (T.leaf
 ((X.ret,[AV.ptr 0 0,AV.int IntKind.i64 8,AV.int IntKind.i64 (↑i:Int)],[Blk.var [AV.lst 5 (List.map tyK.elem K) Tl.open_,AV.lst 3 (List.map tyT.elem L) Tl.open_],Blk.var [AV.str (((List.map tyT.elem L).getD (↑i:Int).toNat undef).cells.getD 0 undef).toS,AV.lst 5 (((List.map tyT.elem L).getD (↑i:Int).toNat undef).cells.getD 1 undef).toL Tl.open_,AV.lst 4 (((List.map tyT.elem L).getD (↑i
 :Int).toNat undef).cells.getD 2 undef).toL Tl.open_]]))) (T.br (askQ okC1 [AV.lst 5 (((List.map tyT.elem L).getD (↑i:Int).toNat undef).cells.getD 1 undef).toL Tl.open_]) (T.br (!decide (constQ [AV.lst 5 (((List.map tyT.elem L).getD (↑i:Int).toNat undef).cells.getD 1 undef).toL Tl.open_]=(0:Int))) (T.leaf ((X.ret,[AV.ptr 0 0,AV.int IntKind.i64 (constQ [AV.lst 5 (((List.map tyT.elem
 L).getD (↑i:Int).toNat undef).cells.getD 1 undef).toL Tl.open_]),AV.int IntKind.i64 (↑i:Int)],[Blk.var [AV.lst 5 (List.map tyK.elem K) Tl.open_,AV.lst 3 (List.map tyT.elem L) Tl.open_],Blk.var [AV.str (((List.map tyT.elem L).getD (↑i:Int).toNat undef).cells.getD 0 undef).toS,AV.lst 5 (((List.map tyT.elem L).getD (↑i:Int).toNat undef).cells.getD 1 undef).toL Tl.open_,AV.lst 4
 (((List.map tyT.elem L).getD (↑i:Int).toNat undef).cells.getD 2 undef).toL Tl.open_]]))) (T.br (decide ((16:Int)<(↑(((List.map tyT.elem L).getD (↑i:Int).toNat undef).cells.getD 2 undef).toL.length:Int))) (T.leaf ((X.ret,[AV.ptr 0 0,AV.int IntKind.i64 6,AV.int IntKind.i64 (↑i:Int)],[Blk.var [AV.lst 5 (List.map tyK.elem K) Tl.open_,AV.lst 3 (List.map tyT.elem L) Tl.open_],Blk.var
 [AV.str (((List.map tyT.elem L).getD (↑i:Int).toNat undef).cells.getD 0 undef).toS,AV.lst 5 (((List.map tyT.elem L).getD (↑i:Int).toNat undef).cells.getD 1 undef).toL Tl.open_,AV.lst 4 (((List.map tyT.elem L).getD (↑i:Int).toNat undef).cells.getD 2 undef).toL Tl.open_]]))) (T.br (askS [AV.ptr 0 (0:Nat),AV.int IntKind.i64 (↑i:Int),AV.ptr 1 (0:Nat),AV.int IntKind.i64 (0:Int)]
 [AV.ptr 0 (0:Nat),AV.int IntKind.i64 (↑i:Int),AV.ptr 1 (0:Nat),AV.int IntKind.i64 (↑(0:Nat):Int)] [Blk.var [AV.lst 5 (List.map tyK.elem K) Tl.open_,AV.lst 3 (List.map tyT.elem L) Tl.open_],Blk.var [AV.str (((List.map tyT.elem L).getD (↑i:Int).toNat undef).cells.getD 0 undef).toS,AV.lst 5 (((List.map tyT.elem L).getD (↑i:Int).toNat undef).cells.getD 1 undef).toL Tl.open_,AV.lst
 4 (((List.map tyT.elem L).getD (↑i:Int).toNat undef).cells.getD 2 undef).toL Tl.open_]] [Blk.var [AV.lst 5 (List.map tyK.elem K) Tl.open_,AV.lst 3 (List.map tyT.elem L) Tl.open_],Blk.var [AV.str t0,AV.lst 5 (List.map tyC.elem t1) Tl.open_,AV.lst 4 (List.map tyV.elem t2) Tl.open_]]) (T.leaf ((X.normal,[AV.ptr 0 0,AV.fsl 0 [],AV.int IntKind.i64 (IntKind.i64.wrap ((↑i:Int)+1))],[Blk.var
 [AV.lst 5 (List.map tyK.elem K) Tl.open_,AV.lst 3 (List.map tyT.elem L) Tl.open_],Blk.var [AV.str t0,AV.lst 5 (List.map tyC.elem t1) Tl.open_,AV.lst 4 (List.map tyV.elem t2) Tl.open_]]))) T.fail))) T.fail)) T.fail)) T.fail) T.fail) T.fail) (T.leaf ((X.exit 2,[AV.ptr 0 0,AV.fsl 0 [],AV.int IntKind.i64 (↑i:Int)],[Blk.var [AV.lst 5 (List.map tyK.elem K) Tl.open_,AV.lst 3 (List.map tyT.elem
 L) Tl.open_]])))):=by kernel_rfl
theorem p10bx(K:List tyK.I)(L:List tyT.I)(i:Nat):obsK X10r (kNo [1,1,1,1,0,1,0,0,1,0,0,1,1,1,1,1,1,1]) 90 (sub (bodyOf Tryz.f10) [1,1,1,1,0,1,0,0]) [1,1,1,1,0,1,0,0] (frm (st10b i)) (hm10 K L) [1,2,5]=
 (T.br (decide ((↑i:Int)<(↑(List.map tyT.elem L).length:Int))) (T.br (decide ((0:Int)≤(↑i:Int))&&decide ((↑i:Int)<(↑(List.map tyT.elem L).length:Int))&&fitsC Tryz.prog (44:Nat) ((List.map tyT.elem L).getD (↑i:Int).toNat undef)) (T.br (askQ (clKx (12:FuncId)).2 [AV.agg [AV.lst 5 (List.map tyK.elem K) Tl.open_,AV.lst 3 (List.map tyT.elem L) Tl.open_],AV.str (((List.map
 tyT.elem L).getD (↑i:Int).toNat undef).cells.getD 0 undef).toS]) (T.br (askL E10 (12:Nat) [AV.agg [AV.lst 5 (List.map tyK.elem K) Tl.open_,AV.lst 3 (List.map tyT.elem L) Tl.open_],AV.str (((List.map tyT.elem L).getD (↑i:Int).toNat undef).cells.getD 0 undef).toS] (AV.int IntKind.i64 (classQ [AV.agg [AV.lst 5 (List.map tyK.elem K) Tl.open_,AV.lst 3 (List.map tyT.elem L) Tl.open_],AV.str
 (((List.map tyT.elem L).getD (↑i:Int).toNat undef).cells.getD 0 undef).toS]))) (T.br (decide (classQ [AV.agg [AV.lst 5 (List.map tyK.elem K) Tl.open_,AV.lst 3 (List.map tyT.elem L) Tl.open_],AV.str (((List.map tyT.elem L).getD (↑i:Int).toNat undef).cells.getD 0 undef).toS]<(0:Int))) (T.leaf ((X.ret,[AV.ptr 0 0,AV.int IntKind.i64 9,AV.int IntKind.i64 (↑i:Int)],[Blk.var [AV.lst 5
 (List.map tyK.elem K) Tl.open_,AV.lst 3 (List.map tyT.elem L) Tl.open_],Blk.var [AV.str (((List.map tyT.elem L).getD (↑i:Int).toNat undef).cells.getD 0 undef).toS,AV.lst 5 (((List.map tyT.elem L).getD (↑i:Int).toNat undef).cells.getD 1 undef).toL Tl.open_,AV.lst 4 (((List.map tyT.elem L).getD (↑i:Int).toNat undef).cells.getD 2 undef).toL Tl.open_]]))) (T.br (askQ (clTx (14:FuncId)).2
 [AV.agg [AV.lst 5 (List.map tyK.elem K) Tl.open_,AV.lst 3 (List.map tyT.elem L) Tl.open_],AV.str (((List.map tyT.elem L).getD (↑i:Int).toNat undef).cells.getD 0 undef).toS]) (T.br (decide (turnQ [AV.agg [AV.lst 5 (List.map tyK.elem K) Tl.open_,AV.lst 3 (List.map tyT.elem L) Tl.open_],AV.str (((List.map tyT.elem L).getD (↑i:Int).toNat undef).cells.getD 0 undef).toS]<(↑i:Int))) (T.leaf
 ((X.ret,[AV.ptr 0 0,AV.int IntKind.i64 8,AV.int IntKind.i64 (↑i:Int)],[Blk.var [AV.lst 5 (List.map tyK.elem K) Tl.open_,AV.lst 3 (List.map tyT.elem L) Tl.open_],Blk.var [AV.str (((List.map tyT.elem L).getD (↑i:Int).toNat undef).cells.getD 0 undef).toS,AV.lst 5 (((List.map tyT.elem L).getD (↑i:Int).toNat undef).cells.getD 1 undef).toL Tl.open_,AV.lst 4 (((List.map tyT.elem L).getD (↑i
 :Int).toNat undef).cells.getD 2 undef).toL Tl.open_]]))) (T.br (askQ okC1 [AV.lst 5 (((List.map tyT.elem L).getD (↑i:Int).toNat undef).cells.getD 1 undef).toL Tl.open_]) (T.br (!decide (constQ [AV.lst 5 (((List.map tyT.elem L).getD (↑i:Int).toNat undef).cells.getD 1 undef).toL Tl.open_]=(0:Int))) (T.leaf ((X.ret,[AV.ptr 0 0,AV.int IntKind.i64 (constQ [AV.lst 5 (((List.map tyT.elem
 L).getD (↑i:Int).toNat undef).cells.getD 1 undef).toL Tl.open_]),AV.int IntKind.i64 (↑i:Int)],[Blk.var [AV.lst 5 (List.map tyK.elem K) Tl.open_,AV.lst 3 (List.map tyT.elem L) Tl.open_],Blk.var [AV.str (((List.map tyT.elem L).getD (↑i:Int).toNat undef).cells.getD 0 undef).toS,AV.lst 5 (((List.map tyT.elem L).getD (↑i:Int).toNat undef).cells.getD 1 undef).toL Tl.open_,AV.lst 4
 (((List.map tyT.elem L).getD (↑i:Int).toNat undef).cells.getD 2 undef).toL Tl.open_]]))) (T.br (decide ((16:Int)<(↑(((List.map tyT.elem L).getD (↑i:Int).toNat undef).cells.getD 2 undef).toL.length:Int))) (T.leaf ((X.ret,[AV.ptr 0 0,AV.int IntKind.i64 6,AV.int IntKind.i64 (↑i:Int)],[Blk.var [AV.lst 5 (List.map tyK.elem K) Tl.open_,AV.lst 3 (List.map tyT.elem L) Tl.open_],Blk.var
 [AV.str (((List.map tyT.elem L).getD (↑i:Int).toNat undef).cells.getD 0 undef).toS,AV.lst 5 (((List.map tyT.elem L).getD (↑i:Int).toNat undef).cells.getD 1 undef).toL Tl.open_,AV.lst 4 (((List.map tyT.elem L).getD (↑i:Int).toNat undef).cells.getD 2 undef).toL Tl.open_]]))) T.fail)) T.fail)) T.fail)) T.fail) T.fail) T.fail) (T.leaf ((X.exit 2,[AV.ptr 0 0,AV.fsl 0 [],AV.int IntKind.i64 (↑i
 :Int)],[Blk.var [AV.lst 5 (List.map tyK.elem K) Tl.open_,AV.lst 3 (List.map tyT.elem L) Tl.open_]])))):=by kernel_rfl
theorem askL_true{E:Env}{cs:List Cl}{g:FuncId}{vs:List AV}{v:AV}{c:Cl}(hC:E.C=lightC cs)(hf:cs.find? (fun c=>c.f==g)=some c)(hok:c.ok (vs.map drop1))(hv:c.res (vs.map drop1)=v)(hn:noF v=true):askL E g vs v=true:=by
 have:=bL (α:=Unit) (t:= .leaf ()) (f:= .fail) (x:= .ok ()) hC hf hok hv hn rfl
 cases h:askL E g vs v with
 |true=>rfl
 |false=>rw [h]at this;cases this
theorem place_lt{p:Nat→Prop}{n j:Nat}(hj:j<n)(hp:p j):decide (placeOf (firstI p n)<(j:Int))=ask (∃k,k<j∧p k):=by
 cases hf:firstI p n with
 |none=>exact absurd hp (firstI_none hf j hj)
 |some i=>
  obtain⟨h1,h2,h3⟩:=firstI_some hf
  by_cases hij:i<j
  ·rw[ask_true ⟨i,hij,h2⟩];exact decide_eq_true (by simp only[placeOf];omega)
  ·rw[ask_false fun⟨k,hk,hpk⟩=>h3 k (by omega) hpk];exact decide_eq_false (by simp only[placeOf];omega)
theorem place_neg{p:Nat→Prop}{n:Nat}:decide (placeOf (firstI p n)<(0:Int))=!ask (∃k,k<n∧p k):=by
 cases hf:firstI p n with
 |none=>
  rw[ask_false fun⟨k,hk,hpk⟩=>firstI_none hf k hk hpk];rfl
 |some i=>
  obtain⟨h1,h2,h3⟩:=firstI_some hf;rw[ask_true ⟨i,h1,h2⟩];exact decide_eq_false (by simp only[placeOf];omega)
theorem encBS_inj(x y:tyB.I×ByteArray)(h:encBS x=encBS y):x=y:=by
 obtain⟨a,b⟩:=x;obtain⟨c,d⟩:=y;simp only[encBS,List.cons.injEq,AV.str.injEq,and_true]at h;rw[Ty.elem_inj h.1,h.2]
theorem encTI_inj(x y:tyT.I×Int)(h:encTI x=encTI y):x=y:=by
 obtain⟨a,b⟩:=x;obtain⟨c,d⟩:=y;simp only[encTI,List.cons.injEq,AV.int.injEq,true_and,and_true]at h;rw[Ty.elem_inj h.1,h.2]
theorem classQ_eq(K:List tyK.I)(L:List tyT.I)(s:ByteArray):classQ [tyB.elem (K,L), .str s]=placeOf (firstI (fun j=>nmK (K.getD j tyK.zero)=s) K.length):=pick_eq encBS_inj ((K,L),s)
theorem turnQ_eq(K:List tyK.I)(L:List tyT.I)(s:ByteArray):turnQ [tyB.elem (K,L), .str s]=placeOf (firstI (fun j=>nmT (L.getD j tyT.zero)=s) L.length):=pick_eq encBS_inj ((K,L),s)
theorem constQ_eq(L:List tyC.I):constQ [encL tyC L]=poolE L:=pick_eq (enc:=fun L:List tyC.I=> [encL tyC L]) (fun x y h=>encL_inj (List.cons.inj h).1) L
theorem moveQ_eq(t:tyT.I)(i:Nat):moveQ [tyT.elem t, .int .i64 i]=moveE (csT t) (mvT t) i:=pick_eq encTI_inj (t,(i:Int))
theorem clKx_ok(f:FuncId)(hc: ∀(K:List tyK.I) (L:List tyT.I) (s:ByteArray),K.length<1000000000000000→ ∀h,Con E0 f [tyB.elem (K,L), .str s] h (.int .i64 (placeOf (firstI (fun j=>nmK (K.getD j tyK.zero)=s) K.length))) h): ∀args,(clKx f).ok args→ ∀h,Con E0 (clKx f).f args h ((clKx f).res args) h:=by
 rintro args ⟨K,L,s,rfl,hK,_⟩ h;show Con E0 f _ h (.int .i64 (classQ [tyB.elem (K,L), .str s])) h;rw[classQ_eq];exact hc K L s hK h
theorem clTx_ok(f:FuncId)(hc: ∀(K:List tyK.I) (L:List tyT.I) (s:ByteArray),L.length<1000000000000000→ ∀h,Con E0 f [tyB.elem (K,L), .str s] h (.int .i64 (placeOf (firstI (fun j=>nmT (L.getD j tyT.zero)=s) L.length))) h): ∀args,(clTx f).ok args→ ∀h,Con E0 (clTx f).f args h ((clTx f).res args) h:=by
 rintro args ⟨K,L,s,rfl,_,hL⟩ h;show Con E0 f _ h (.int .i64 (turnQ [tyB.elem (K,L), .str s])) h;rw[turnQ_eq];exact hc K L s hL h
theorem clR31: ∀args,(clRt 31).ok args→ ∀h,Con E0 (clRt 31).f args h ((clRt 31).res args) h:=by
 rintro args ⟨x,rfl,hx⟩ h;have e:rightQ [tyK.elem x]=rightX x:=pick_eq (enc:=fun x:tyK.I=> [tyK.elem x]) (fun x y h=>Ty.elem_inj (List.cons.inj h).1) x;show Con E0 31 _ h (.int .i64 (rightQ [tyK.elem x])) h;rw[e];obtain⟨a0,a1,a2,a3,a4⟩:=x;exact con13r a0 a1 a2 a3 a4 hx h
theorem clC32: ∀args,(clCo 32).ok args→ ∀h,Con E0 (clCo 32).f args h ((clCo 32).res args) h:=by
 rintro args ⟨L,rfl,hl,hok⟩ h;show Con E0 32 _ h (.int .i64 (constQ [encL tyC L])) h;rw[constQ_eq];exact con40 L hl hok h
theorem clM33: ∀args,(clMo 33).ok args→ ∀h,Con E0 (clMo 33).f args h ((clMo 33).res args) h:=by
 rintro args ⟨t,i,rfl,ht,hi⟩ h;show Con E0 33 _ h (.int .i64 (moveQ [tyT.elem t, .int .i64 i])) h;rw[moveQ_eq];obtain⟨t0,t1,t2⟩:=t;exact con33 t0 t1 t2 i hi (Nat.lt_of_le_of_lt ht.2.2.1 (by decide)) ht.2.2.2 h
theorem g10:Ground E10:=⟨fun t h=>by simpa [E10,E0]using h,lightC_ok rfl (fun c hc args ha h=>by
 obtain rfl:=List.mem_singleton.1 hc
 exact Con.env (E:=E0) (E':=E10) rfl rfl (clKx_ok 12 (fun K L s hK h=>conv12 K L s hK h) args ha h)) (fun c hc args=>by
 obtain rfl:=List.mem_singleton.1 hc
 rfl),bok_none (fun _=>rfl),by kernel_rfl⟩
theorem calls10:CallOK X10r.E X10r.calls:=callsBy_ok rfl fun c hc args ha h=>Con.env (E:=E0) (E':=E10) rfl rfl (by
 rcases List.mem_cons.1 hc with rfl|hc
 ·exact clKx_ok 12 (fun K L s hK h=>conv12 K L s hK h) args ha h
 rcases List.mem_cons.1 hc with rfl|hc
 ·exact clR31 args ha h
 rcases List.mem_cons.1 hc with rfl|hc
 ·exact clTx_ok 14 (fun K L s hL h=>conv14 K L s hL h) args ha h
 rcases List.mem_cons.1 hc with rfl|hc
 ·exact clC32 args ha h
 ·obtain rfl:=List.mem_singleton.1 hc
  exact clM33 args ha h)
theorem fx10{K:List tyK.I}{L:List tyT.I}: ∀x,x∈hm10 K L→fxB 1 x:=fun x hx=>by
 obtain rfl:=List.mem_singleton.1 hx;exact fx9
theorem fx10m{K:List tyK.I}{L:List tyT.I}{t0:ByteArray}{t1:List tyC.I}{t2:List tyV.I}: ∀x,x∈hm10m K L t0 t1 t2→fxB 2 x:=fun x hx=>by
 simp only[hm10m,List.mem_cons,List.not_mem_nil,or_false]at hx
 rcases hx with rfl|rfl
 ·exact fx9
 ·refine fxB_var fun v hv=>?_
  simp only[List.mem_cons,List.not_mem_nil,or_false]at hv
  rcases hv with rfl|rfl|rfl
  ·exact fun _=>rfl
  ·exact fx_L
  ·exact fx_L
theorem sl10a{x:AV}{j:Nat}: ∀q,q∈st10a j→frm ([1,2,3].zip [.ptr 0 0,x, .int .i64 j]) q.1=q.2∧fx 1 q.2∧isFsl q.2=false:=by
 intro q hq;simp only[st10a,List.mem_cons,List.not_mem_nil,or_false]at hq
 rcases hq with rfl|rfl<;>exact⟨rfl,fun _=>rfl,rfl⟩
theorem sl10b{x:AV}{j:Nat}: ∀q,q∈st10b j→frm ([1,2,5].zip [.ptr 0 0,x, .int .i64 j]) q.1=q.2∧fx 1 q.2∧isFsl q.2=false:=by
 intro q hq;simp only[st10b,List.mem_cons,List.not_mem_nil,or_false]at hq
 rcases hq with rfl|rfl<;>exact⟨rfl,fun _=>rfl,rfl⟩
theorem sl10m{x:AV}{i j:Nat}: ∀q,q∈st10m i j→frm ([1,2,5,6,8].zip [.ptr 0 0,x, .int .i64 i, .ptr 1 0, .int .i64 j]) q.1=q.2∧fx 2 q.2∧isFsl q.2=false:=by
 intro q hq;simp only[st10m,List.mem_cons,List.not_mem_nil,or_false]at hq
 rcases hq with rfl|rfl|rfl|rfl<;>exact⟨rfl,fun _=>rfl,rfl⟩
theorem round10a(K:List tyK.I)(L:List tyT.I)(j:Nat)(hj:j<K.length)(hl:K.length<1000000000000000)(hL:L.length<1000000000000000)(hok: ∀x,x∈K→tyK.okay x):
  (clsE K j=0→Tri E10 90 [] (sub (bodyOf Tryz.f10) [1,1,0,1,0,0]) (frm (st10a j)) (hm10 K L) .normal (frm (st10a (j+1))) (hm10 K L))∧
  (clsE K j≠0→Tri E10 90 [] (sub (bodyOf Tryz.f10) [1,1,0,1,0,0]) (frm (st10a j)) (hm10 K L) .ret (frm [(2, .int .i64 (clsE K j))]) []):=by
 have f0:fitsC Tryz.prog 37 (tyK.elem tyK.zero)=true:=by kernel_rfl
 have hx:=hok _ (getD_mem (d:=tyK.zero) hj)
 have ht:=p10a K L j
 have hB:AV.agg [AV.lst 5 (List.map tyK.elem K) Tl.open_,AV.lst 3 (List.map tyT.elem L) Tl.open_]=tyB.elem (K,L):=rfl;have q1:askQ (okE1 tyK) [tyK.elem (K.getD j tyK.zero)]=true:=ask_true ⟨_,rfl,hx⟩;have e1:rightQ [tyK.elem (K.getD j tyK.zero)]=rightX (K.getD j tyK.zero):=pick_eq (enc:=fun x:tyK.I=> [tyK.elem x]) (fun x y h=>Ty.elem_inj (List.cons.inj h).1) _;obtain⟨s,hs⟩: ∃s,s=((tyK.elem (K.getD j tyK.zero)).cells.getD 0 undef).toS:=⟨_,rfl⟩;have hk:okBS [tyB.elem (K,L), .str s]:=⟨K,L,s,rfl,hl,hL⟩;have q2:askQ (clKx 12).2 [tyB.elem (K,L), .str s]=true:=ask_true hk
 have q3:askL E10 12 [tyB.elem (K,L), .str s] (.int .i64 (classQ [tyB.elem (K,L), .str s]))=true:=askL_true (cs:=cs10l) (c:=clKx 12) rfl rfl hk rfl rfl
 have q4:decide (classQ [tyB.elem (K,L), .str s]<(j:Int))=ask (∃k,k<j∧nmK (K.getD k tyK.zero)=nmK (K.getD j tyK.zero)):=by
  rw[classQ_eq,hs];exact place_lt (p:=fun k=>nmK (K.getD k tyK.zero)=nmK (K.getD j tyK.zero)) hj rfl
 rw[idx_ok hj f0,lt_ok hj,Int.toNat_natCast,getD_elem hj,wrap_next (by omega),shape_K,←hs,hB,q1,q2,q3,q4,e1]at ht;unfold clsE
 by_cases h0:rightX (K.getD j tyK.zero)=0
 ·rw[if_pos h0]
  rw[decide_eq_true h0]at ht
  cases hc:ask (∃k,k<j∧nmK (K.getD k tyK.zero)=nmK (K.getD j tyK.zero))with
  |true=>
   rw[hc]at ht;exact⟨fun h=>absurd h (by decide),fun _=>Tri.seenX (X:=X10r) (h':= []) (extra:=hm10 K L) g10 noG0 calls10 (congrArg T.run ht) (Nat.zero_le _) fx0 (ret1 rfl)⟩
  |false=>
   rw[hc]at ht;exact⟨fun _=>Tri.seenX (X:=X10r) (extra:= []) g10 noG0 calls10 (congrArg T.run ht) (Nat.zero_le _) fx10 sl10a,fun h=>absurd rfl h⟩
 ·rw[if_neg h0]
  rw[decide_eq_false h0]at ht;exact⟨fun h=>absurd h h0,fun _=>Tri.seenX (X:=X10r) (h':= []) (extra:=hm10 K L) g10 noG0 calls10 (congrArg T.run ht) (Nat.zero_le _) fx0 (ret1 rfl)⟩
theorem Tri.seenK{X:SX}(g:Ground X.E)(hG: ∀i cs,X.E.G i=some cs→noRefs cs=true)(hcall:CallOK X.E X.calls){N:Nat}{h0:H}{body:Code}{Kn:Known}(hK:KOK X.E N h0 body Kn){p:List Nat}{τ:Fr}{h:H}{L:List Nat}{x:AM.X}{vs:List AV}{h' extra:H}
  (hr:(obsK X Kn N (sub body p) p τ h L).run= .ok (x,vs,h'++extra)) {sl:List (Nat×AV)} (hn:h0.length≤h'.length) (hh: ∀x,x∈h'→fxB h'.length x)
  (hs: ∀q,q∈sl→AM.frm (L.zip vs) q.1=q.2∧fx h'.length q.2∧isFsl q.2=false):Tri X.E N h0 (sub body p) τ h x (AM.frm sl) h':=
 Tri.seenB g hG hcall hK rfl hr hn (fun x hx=>(hh x hx).1) (fun x hx=>(hh x hx).2 extra.length) (fun q hq=>⟨(hs q hq).1,(hs q hq).2.1 extra.length,(hs q hq).2.2⟩)
set_option maxRecDepth 100000 in
theorem round10b(K:List tyK.I)(L:List tyT.I)(j:Nat)(hj:j<L.length)(hl:K.length<1000000000000000)(hL:L.length<1000000000000000)(hok: ∀x,x∈L→tyT.okay x):
  (turnE K L j=0→Tri E10 90 [] (sub (bodyOf Tryz.f10) [1,1,1,1,0,1,0,0]) (frm (st10b j)) (hm10 K L) .normal (frm (st10b (j+1))) (hm10 K L))∧
  (turnE K L j≠0→Tri E10 90 [] (sub (bodyOf Tryz.f10) [1,1,1,1,0,1,0,0]) (frm (st10b j)) (hm10 K L) .ret (frm [(2, .int .i64 (turnE K L j))]) []):=by
 have f0:fitsC Tryz.prog 44 (tyT.elem tyT.zero)=true:=by kernel_rfl
 have hx:=hok _ (getD_mem (d:=tyT.zero) hj);have hB:AV.agg [AV.lst 5 (List.map tyK.elem K) Tl.open_,AV.lst 3 (List.map tyT.elem L) Tl.open_]=tyB.elem (K,L):=rfl;obtain⟨s,hs⟩: ∃s,s=((tyT.elem (L.getD j tyT.zero)).cells.getD 0 undef).toS:=⟨_,rfl⟩;have hs':s=nmT (L.getD j tyT.zero):=hs;have hk:okBS [tyB.elem (K,L), .str s]:=⟨K,L,s,rfl,hl,hL⟩;have q2:askQ (clKx 12).2 [tyB.elem (K,L), .str s]=true:=ask_true hk;have q3:askL E10 12 [tyB.elem (K,L), .str s] (.int .i64 (classQ [tyB.elem (K,L), .str s]))=true:=askL_true (cs:=cs10l) (c:=clKx 12) rfl rfl hk rfl rfl
 have q4:decide (classQ [tyB.elem (K,L), .str s]<(0:Int))=!ask (nmT (L.getD j tyT.zero)∈upto nmK K K.length):=by
  rw[classQ_eq,place_neg]
  congr 1
  have hm:nmT (L.getD j tyT.zero)∈upto nmK K K.length↔ ∃k,k<K.length∧nmK (K.getD k tyK.zero)=nmT (L.getD j tyT.zero):=mem_upto (Nat.le_refl _)
  by_cases hi:nmT (L.getD j tyT.zero)∈upto nmK K K.length
  ·rw[ask_true hi];exact ask_true (by rw[hs'];exact hm.1 hi)
  ·rw[ask_false hi];exact ask_false (by rw[hs'];exact fun hh=>hi (hm.2 hh))
 have q5:askQ (clTx 14).2 [tyB.elem (K,L), .str s]=true:=ask_true hk
 have q6:decide (turnQ [tyB.elem (K,L), .str s]<(j:Int))=ask (∃k,k<j∧nmT (L.getD k tyT.zero)=nmT (L.getD j tyT.zero)):=by
  rw[turnQ_eq,hs'];exact place_lt (p:=fun k=>nmT (L.getD k tyT.zero)=nmT (L.getD j tyT.zero)) hj rfl
 have q7:askQ okC1 [encL tyC (csT (L.getD j tyT.zero))]=true:=ask_true ⟨_,rfl,Nat.lt_of_le_of_lt hx.2.1.1 (by decide),hx.2.1.2⟩;have w:IntKind.i64.wrap ((j:Int)+1)=((j+1:Nat):Int):=wrap_next (by omega)
 have hx0:=p10bx K L j
 rw[idx_ok hj f0,lt_ok hj,Int.toNat_natCast,getD_elem hj,shape_T1,shape_T2,←hs,hB,q2,q3,q4,q5,q6,q7,constQ_eq]at hx0;have hN:=kNo_ok (E:=E10) (N:=90) (hb:= []) (b:=bodyOf Tryz.f10) (p:= [1,1,1,1,0,1,0,0,1,0,0,1,1,1,1,1,1,1]);unfold turnE
 cases hm:ask (nmT (L.getD j tyT.zero)∈upto nmK K K.length)with
 |false=>
  rw[hm]at hx0;exact⟨fun h=>absurd (show(9:Int)=0 from h) (by decide),fun _=>Tri.seenK (X:=X10r) (h':= []) (extra:= [.var [encL tyK K,encL tyT L], .var _]) g10 noG0 calls10 hN (congrArg T.run hx0) (Nat.zero_le _) fx0 (ret1 rfl)⟩
 |true=>
  rw[hm]at hx0
  cases hc:ask (∃k,k<j∧nmT (L.getD k tyT.zero)=nmT (L.getD j tyT.zero))with
  |true=>
   rw[hc]at hx0;exact⟨fun h=>absurd (show(8:Int)=0 from h) (by decide),fun _=>Tri.seenK (X:=X10r) (h':= []) (extra:= [.var [encL tyK K,encL tyT L], .var _]) g10 noG0 calls10 hN (congrArg T.run hx0) (Nat.zero_le _) fx0 (ret1 rfl)⟩
  |false=>
   rw[hc]at hx0
   dsimp only
   by_cases h0:poolE (csT (L.getD j tyT.zero))=0
   ·rw[if_pos h0]
    rw[decide_eq_true h0]at hx0
    obtain⟨t0,t1,t2,hv⟩: ∃(t0:ByteArray) (t1:List tyC.I) (t2:List tyV.I),L.getD j tyT.zero=(t0,t1,t2):=by
     obtain⟨⟨t0,t1,t2⟩,hv⟩: ∃x:tyT.I,L.getD j tyT.zero=x:=⟨_,rfl⟩;exact⟨t0,t1,t2,hv⟩
    have hcs:csT (L.getD j tyT.zero)=t1:=by rw[hv];rfl
    have hmv:mvT (L.getD j tyT.zero)=t2:=by rw[hv];rfl
    have hl2:(((tyT.elem (L.getD j tyT.zero)).cells.getD 2 undef).toL.length:Int)=(t2.length:Int):=by rw[hv];show(((t2.map tyV.elem).length:Nat):Int)=_;simp
    have hst:s=t0:=by rw[hs,hv];rfl
    rw[hcs,hmv];rw[hv]at hx;have oT:tyT.okay (t0,t1,t2):=hx;have l2:t2.length<1000000000000000:=Nat.lt_of_le_of_lt oT.2.2.1 (by decide)
    by_cases h16:16<t2.length
    ·have hR:movesE t1 t2=6:=if_pos h16
     rw[hR];rw[hl2,decide_eq_true (show(16:Int)<(t2.length:Int) by omega)]at hx0;exact⟨fun h=>absurd h (by decide),fun _=>Tri.seenK (X:=X10r) (h':= []) (extra:= [.var [encL tyK K,encL tyT L], .var _]) g10 noG0 calls10 hN (congrArg T.run hx0) (Nat.zero_le _) fx0 (ret1 rfl)⟩
    have d16:decide ((16:Int)<(t2.length:Int))=false:=decide_eq_false (by omega)
    have hR:movesE t1 t2=match firstI (fun k=>moveE t1 t2 k≠0) t2.length with
     |some i=>moveE t1 t2 i
     |none=>0:=if_neg h16
    have hT:AV.agg [AV.str t0,AV.lst 5 (List.map tyC.elem t1) Tl.open_,AV.lst 4 (List.map tyV.elem t2) Tl.open_]=tyT.elem (t0,t1,t2):=rfl
    have em: ∀k:Nat,moveQ [tyT.elem (t0,t1,t2),AV.int .i64 k]=moveE t1 t2 k:=fun k=>moveQ_eq (t0,t1,t2) k
    obtain⟨a1,a2⟩:=find_roundsR (E:=E10) (N:=90) (h0:= []) (c:=sub (bodyOf Tryz.f10) [1,1,1,1,0,1,0,0,1,0,0,1,1,1,1,1,1,1,0,0]) (p:=fun k=>moveE t1 t2 k≠0) (n:=t2.length) (st:=st10m j) (hm:=fun _=>hm10m K L t0 t1 t2) (hr:=fun _=> []) (rt:=fun k=> [(2, .int .i64 (moveE t1 t2 k))]) (id:=4)
     (fun k hk _ hp=>by
      have hp:moveE t1 t2 k=0:=Classical.not_not.1 hp
      have ht:=p10m K L t0 t1 t2 j k
      have qm:askQ okTM [tyT.elem (t0,t1,t2),AV.int .i64 k]=true:=ask_true ⟨(t0,t1,t2),k,rfl,oT,hk⟩;rw[lt_ok hk,hT,qm,em,hp,wrap_next (by omega)]at ht
      exact Tri.seenX (X:=X10r) (extra:= []) g10 noG0 calls10 (congrArg T.run ht) (Nat.zero_le _) fx10m sl10m)
     (fun k hk _ hp=>by
      have ht:=p10m K L t0 t1 t2 j k
      have qm:askQ okTM [tyT.elem (t0,t1,t2),AV.int .i64 k]=true:=ask_true ⟨(t0,t1,t2),k,rfl,oT,hk⟩;rw[lt_ok hk,hT,qm,em,decide_eq_false hp]at ht
      exact Tri.seenX (X:=X10r) (h':= []) (extra:=hm10m K L t0 t1 t2) g10 noG0 calls10 (congrArg T.run ht) (Nat.zero_le _) fx0 (ret1 rfl))
     (by
      have ht:=p10m K L t0 t1 t2 j t2.length
      rw[lt_no]at ht
      exact Tri.seenX (X:=X10r) (extra:= []) g10 noG0 calls10 (congrArg T.run ht) (Nat.zero_le _) fx10m sl10m)
    cases hf:firstI (fun k=>moveE t1 t2 k≠0) t2.length with
    |some i=>
     obtain⟨_,hi2,_⟩:=firstI_some hf
     have hR':movesE t1 t2=moveE t1 t2 i:=by rw[hR,hf]
     have ht:=p10br K L t0 t1 t2 (moveE t1 t2 i) j
     rw[idx_ok hj f0,lt_ok hj,Int.toNat_natCast,getD_elem hj,hl2,shape_T1,shape_T2,←hs,hB,q2,q3,q4,q5,q6,q7,constQ_eq,hm,hc,decide_eq_true h0,d16,hcs,hmv,hst]at ht;rw[hR'];exact⟨fun h=>absurd h hi2,fun _=>Tri.seenK (X:=X10r) (h':= []) (extra:= []) g10 noG0 calls10 (kAt_ok (p:= [1,1,1,1,0,1,0,0,1,0,0,1,1,1,1,1,1,1]) (b:=bodyOf Tryz.f10) (a1 i hf)) ((congrArg T.run ht).trans (bT rfl (bT rfl (bT rfl (bT rfl (bF rfl (bT rfl (bF rfl (bT rfl (bF rfl (bF rfl (bT (askS_self _ _) rfl)))))))))))) (Nat.zero_le _) fx0 (ret1 rfl)⟩
    |none=>
     have hR':movesE t1 t2=0:=by rw[hR,hf]
     have ht:=p10bn K L t0 t1 t2 j
     rw[idx_ok hj f0,lt_ok hj,Int.toNat_natCast,getD_elem hj,hl2,shape_T1,shape_T2,←hs,hB,q2,q3,q4,q5,q6,q7,constQ_eq,hm,hc,decide_eq_true h0,d16,hcs,hmv,hst,w]at ht;rw[hR']
     have hk:=kAt_ok (p:= [1,1,1,1,0,1,0,0,1,0,0,1,1,1,1,1,1,1]) (b:=bodyOf Tryz.f10) (.wk .refl (a2 hf) (Wk.fewer (sl:= [(1,AV.ptr 0 0),(5,AV.int .i64 j)]) (fun q hq=>by
      simp only[List.mem_cons,List.not_mem_nil,or_false]at hq
      rcases hq with rfl|rfl<;>rfl)))
     exact⟨fun _=>Tri.seenK (X:=X10r) (h':=hm10 K L) (extra:= [.var _]) g10 noG0 calls10 hk ((congrArg T.run ht).trans (bT rfl (bT rfl (bT rfl (bT rfl (bF rfl (bT rfl (bF rfl (bT rfl (bF rfl (bF rfl (bT (askS_self _ _) rfl)))))))))))) (Nat.zero_le _) fx10 sl10b,fun h=>absurd rfl h⟩
   ·rw[if_neg h0]
    rw[decide_eq_false h0]at hx0;exact⟨fun h=>absurd h h0,fun _=>Tri.seenK (X:=X10r) (h':= []) (extra:= [.var [encL tyK K,encL tyT L], .var _]) g10 noG0 calls10 hN (congrArg T.run hx0) (Nat.zero_le _) fx0 (ret1 rfl)⟩
theorem p10r(K:List tyK.I)(L:List tyT.I)(e:Int):runV X10r (kTwo (kAt [1,1,0,1] (st10a 0) (hm10 K L) .ret [(2, .int .i64 e)] []) (kNo [1,1,1,1,0,1])) Tryz.f10 (bodyOf Tryz.f10) [.agg [encL tyK K,encL tyT L]]=
 (T.br (decide ((32:Int)<(↑(List.map tyK.elem K).length:Int))) (T.leaf (AV.int IntKind.i64 6)) (T.br (askS [AV.ptr 0 (0:Nat),AV.int IntKind.i64 (0:Int)] [AV.ptr 0 (0:Nat),AV.int IntKind.i64 (↑(0:Nat):Int)] [Blk.var [AV.lst 5 (List.map tyK.elem K) Tl.open_,AV.lst 3 (List.map tyT.elem L) Tl.open_]] [Blk.var [AV.lst 5 (List.map tyK.elem K) Tl.open_,AV.lst 3 (List.map tyT.elem L)
 Tl.open_]]) (T.leaf (AV.int IntKind.i64 e)) T.fail)):=by kernel_rfl
theorem p10nr(K:List tyK.I)(L:List tyT.I)(e:Int):runV X10r (kTwo (kAt [1,1,0,1] (st10a 0) (hm10 K L) .normal (st10a K.length) (hm10 K L)) (kAt [1,1,1,1,0,1] (st10b 0) (hm10 K L) .ret [(2, .int .i64 e)] [])) Tryz.f10 (bodyOf Tryz.f10) [.agg [encL tyK K,encL tyT L]]=
 (T.br (decide ((32:Int)<(↑(List.map tyK.elem K).length:Int))) (T.leaf (AV.int IntKind.i64 6)) (T.br (askS [AV.ptr 0 (0:Nat),AV.int IntKind.i64 (0:Int)] [AV.ptr 0 (0:Nat),AV.int IntKind.i64 (↑(0:Nat):Int)] [Blk.var [AV.lst 5 (List.map tyK.elem K) Tl.open_,AV.lst 3 (List.map tyT.elem L) Tl.open_]] [Blk.var [AV.lst 5 (List.map tyK.elem K) Tl.open_,AV.lst 3 (List.map tyT.elem L)
 Tl.open_]]) (T.br (decide ((32:Int)<(↑(List.map tyT.elem L).length:Int))) (T.leaf (AV.int IntKind.i64 6)) (T.br (askS [AV.ptr 0 (0:Nat),AV.int IntKind.i64 (0:Int)] [AV.ptr 0 (0:Nat),AV.int IntKind.i64 (↑(0:Nat):Int)] [Blk.var [AV.lst 5 (List.map tyK.elem K) Tl.open_,AV.lst 3 (List.map tyT.elem L) Tl.open_]] [Blk.var [AV.lst 5 (List.map tyK.elem K) Tl.open_,AV.lst 3 (List.map
 tyT.elem L) Tl.open_]]) (T.leaf (AV.int IntKind.i64 e)) T.fail)) T.fail)):=by kernel_rfl
theorem p10nn(K:List tyK.I)(L:List tyT.I):runV X10r (kTwo (kAt [1,1,0,1] (st10a 0) (hm10 K L) .normal (st10a K.length) (hm10 K L)) (kAt [1,1,1,1,0,1] (st10b 0) (hm10 K L) .normal (st10b L.length) (hm10 K L))) Tryz.f10 (bodyOf Tryz.f10) [.agg [encL tyK K,encL tyT L]]=
 (T.br (decide ((32:Int)<(↑(List.map tyK.elem K).length:Int))) (T.leaf (AV.int IntKind.i64 6)) (T.br (askS [AV.ptr 0 (0:Nat),AV.int IntKind.i64 (0:Int)] [AV.ptr 0 (0:Nat),AV.int IntKind.i64 (↑(0:Nat):Int)] [Blk.var [AV.lst 5 (List.map tyK.elem K) Tl.open_,AV.lst 3 (List.map tyT.elem L) Tl.open_]] [Blk.var [AV.lst 5 (List.map tyK.elem K) Tl.open_,AV.lst 3 (List.map tyT.elem L)
 Tl.open_]]) (T.br (decide ((32:Int)<(↑(List.map tyT.elem L).length:Int))) (T.leaf (AV.int IntKind.i64 6)) (T.br (askS [AV.ptr 0 (0:Nat),AV.int IntKind.i64 (0:Int)] [AV.ptr 0 (0:Nat),AV.int IntKind.i64 (↑(0:Nat):Int)] [Blk.var [AV.lst 5 (List.map tyK.elem K) Tl.open_,AV.lst 3 (List.map tyT.elem L) Tl.open_]] [Blk.var [AV.lst 5 (List.map tyK.elem K) Tl.open_,AV.lst 3 (List.map
 tyT.elem L) Tl.open_]]) (T.leaf (AV.int IntKind.i64 0)) T.fail)) T.fail)):=by kernel_rfl
theorem p10nx(K:List tyK.I)(L:List tyT.I):runV X10r (kTwo (kAt [1,1,0,1] (st10a 0) (hm10 K L) .normal (st10a K.length) (hm10 K L)) (kNo [1,1,1,1,0,1])) Tryz.f10 (bodyOf Tryz.f10) [.agg [encL tyK K,encL tyT L]]=
 (T.br (decide ((32:Int)<(↑(List.map tyK.elem K).length:Int))) (T.leaf (AV.int IntKind.i64 6)) (T.br (askS [AV.ptr 0 (0:Nat),AV.int IntKind.i64 (0:Int)] [AV.ptr 0 (0:Nat),AV.int IntKind.i64 (↑(0:Nat):Int)] [Blk.var [AV.lst 5 (List.map tyK.elem K) Tl.open_,AV.lst 3 (List.map tyT.elem L) Tl.open_]] [Blk.var [AV.lst 5 (List.map tyK.elem K) Tl.open_,AV.lst 3 (List.map tyT.elem L)
 Tl.open_]]) (T.br (decide ((32:Int)<(↑(List.map tyT.elem L).length:Int))) (T.leaf (AV.int IntKind.i64 6)) T.fail) T.fail)):=by kernel_rfl
theorem p10x(K:List tyK.I)(L:List tyT.I):runV X10r (kTwo (kNo [1,1,0,1]) (kNo [1,1,1,1,0,1])) Tryz.f10 (bodyOf Tryz.f10) [.agg [encL tyK K,encL tyT L]]=
 (T.br (decide ((32:Int)<(↑(List.map tyK.elem K).length:Int))) (T.leaf (AV.int IntKind.i64 6)) T.fail):=by kernel_rfl
set_option maxRecDepth 100000 in
theorem con10(K:List tyK.I)(L:List tyT.I)(hx:tyB.okay (K,L))(h:H):Con E0 10 [tyB.elem (K,L)] h (.int .i64 (bundE K L)) h:=by
 have hn:noRefs [tyB.elem (K,L)]=true:=noRefs1 tyB (K,L);have lK:K.length<1000000000000000:=Nat.lt_of_le_of_lt hx.1.1 (by decide);have lL:L.length<1000000000000000:=Nat.lt_of_le_of_lt hx.2.1 (by decide)
 have eK:(K.map tyK.elem).length=K.length:=by simp
 have eL:(L.map tyT.elem).length=L.length:=by simp
 have fin: ∀{Kn:Known},KOK E10 90 [] (bodyOf Tryz.f10) Kn→(runV X10r Kn Tryz.f10 (bodyOf Tryz.f10) [tyB.elem (K,L)]).run= .ok (.int .i64 (bundE K L))→Con E0 10 [tyB.elem (K,L)] h (.int .i64 (bundE K L)) h:=fun hk hr=>
  Con.env (E:=E10) rfl rfl (Con.pureV (X:=X10r) g10 noG0 calls10 (fn:=Tryz.f10) Tryz.func10 (c:=bodyOf Tryz.f10) rfl rfl (args:= [tyB.elem (K,L)]) hk hn hr (Le.refl _) rfl h)
 by_cases c1:32<K.length
 ·have hR:bundE K L=6:=if_pos c1
  rw[hR]at fin ⊢
  exact fin (KOK.two (kNo_ok (p:= [1,1,0,1])) (kNo_ok (p:= [1,1,1,1,0,1]))) ((congrArg T.run (p10x K L)).trans (bT (decide_eq_true (by rw[eK];omega)) rfl))
 have d1:decide ((32:Int)<((K.map tyK.elem).length:Int))=false:=decide_eq_false (by rw[eK];omega)
 obtain⟨a1,a2⟩:=find_roundsR (E:=E10) (N:=90) (h0:= []) (c:=sub (bodyOf Tryz.f10) [1,1,0,1,0,0]) (p:=fun j=>clsE K j≠0) (n:=K.length) (st:=st10a) (hm:=fun _=>hm10 K L) (hr:=fun _=> []) (rt:=fun j=> [(2, .int .i64 (clsE K j))]) (id:=0)
  (fun j hj _ hp=>(round10a K L j hj lK lL hx.1.2).1 (Classical.not_not.1 hp)) (fun j hj _ hp=>(round10a K L j hj lK lL hx.1.2).2 hp)
  (by
   have ht:=p10a K L K.length
   rw[lt_no]at ht
   exact Tri.seenX (X:=X10r) (extra:= []) g10 noG0 calls10 (congrArg T.run ht) (Nat.zero_le _) fx10 sl10a)
 cases hf:firstI (fun j=>clsE K j≠0) K.length with
 |some i=>
  have hR:bundE K L=clsE K i:=by unfold bundE;rw[if_neg c1,hf]
  rw[hR]at fin ⊢
  exact fin (KOK.two (kAt_ok (p:= [1,1,0,1]) (b:=bodyOf Tryz.f10) (a1 i hf)) (kNo_ok (p:= [1,1,1,1,0,1]))) ((congrArg T.run (p10r K L _)).trans (bF d1 (bT (askS_self _ _) rfl)))
 |none=>
  have k1:=kAt_ok (p:= [1,1,0,1]) (b:=bodyOf Tryz.f10) (a2 hf)
  by_cases c2:32<L.length
  ·have hR:bundE K L=6:=by unfold bundE;rw[if_neg c1,hf];exact if_pos c2
   rw[hR]at fin ⊢
   exact fin (KOK.two k1 (kNo_ok (p:= [1,1,1,1,0,1]))) ((congrArg T.run (p10nx K L)).trans (bF d1 (bT (askS_self _ _) (bT (decide_eq_true (by rw[eL];omega)) rfl))))
  have d2:decide ((32:Int)<((L.map tyT.elem).length:Int))=false:=decide_eq_false (by rw[eL];omega)
  obtain⟨b1,b2⟩:=find_roundsR (E:=E10) (N:=90) (h0:= []) (c:=sub (bodyOf Tryz.f10) [1,1,1,1,0,1,0,0]) (p:=fun j=>turnE K L j≠0) (n:=L.length) (st:=st10b) (hm:=fun _=>hm10 K L) (hr:=fun _=> []) (rt:=fun j=> [(2, .int .i64 (turnE K L j))]) (id:=2)
   (fun j hj _ hp=>(round10b K L j hj lK lL hx.2.2).1 (Classical.not_not.1 hp)) (fun j hj _ hp=>(round10b K L j hj lK lL hx.2.2).2 hp)
   (by
    have ht:=p10bx K L L.length
    rw[lt_no]at ht
    exact Tri.seenK (X:=X10r) (extra:= []) g10 noG0 calls10 (kNo_ok (p:= [1,1,1,1,0,1,0,0,1,0,0,1,1,1,1,1,1,1])) (congrArg T.run ht) (Nat.zero_le _) fx10 sl10b)
  cases hg:firstI (fun j=>turnE K L j≠0) L.length with
  |some i=>
   have hR:bundE K L=turnE K L i:=by unfold bundE;rw[if_neg c1,hf];dsimp only;rw[if_neg c2,hg]
   rw[hR]at fin ⊢
   exact fin (KOK.two k1 (kAt_ok (p:= [1,1,1,1,0,1]) (b:=bodyOf Tryz.f10) (b1 i hg))) ((congrArg T.run (p10nr K L _)).trans (bF d1 (bT (askS_self _ _) (bF d2 (bT (askS_self _ _) rfl)))))
  |none=>
   have hR:bundE K L=0:=by unfold bundE;rw[if_neg c1,hf];dsimp only;rw[if_neg c2,hg]
   rw[hR]at fin ⊢
   exact fin (KOK.two k1 (kAt_ok (p:= [1,1,1,1,0,1]) (b:=bodyOf Tryz.f10) (b2 hg))) ((congrArg T.run (p10nn K L)).trans (bF d1 (bT (askS_self _ _) (bF d2 (bT (askS_self _ _) rfl)))))
end Go.Proofs.YtaooangghieljaaGreatDoor.AM
