/- Texts of this claim, put together. -/
import Derived.Calls
import Derived.Orders
import Derived.Laws.Cells
import Derived.Laws.World
import Derived.Laws.Tables
import Derived.Laws.StructEq
import Derived.Great.BuildSlice
section
-- SQUEEZED
/- The abstract machine: a Go program's code run on trees instead of memory cells: definitions. -/
namespace Go.Proofs.YthnajefdiljneaaDoor.AM
set_option linter.unusedVariables false
set_option linter.unusedSimpArgs false
set_option linter.unusedSectionVars false
inductive Tl where
 |clip
 |open_
 |own (t:Nat)
 deriving DecidableEq,Inhabited
inductive AV where
 |bool (b:Bool)
 |int (k:IntKind) (n:Int)
 |str (s:ByteArray)
 |nilp
 |ptr (b off:Nat)
 |eptr (b i sz off:Nat)
 |fp (cs:List AV) (off:Nat)
 |nils
 |sl (b off len sz:Nat) (clip:Bool)
 |vsl (b off len:Nat) (clip:Bool)
 |lst (sz:Nat) (l:List AV) (tl:Tl)
 |fsl (sz:Nat) (l:List AV)
 |nilm
 |map (b:Nat)
 |nilf
 |clo (f:Nat) (first caps:List AV)
 |nili
 |agg (cs:List AV)
 |tup (vs:List AV)
 deriving Inhabited
inductive Blk where
 |var (cs:List AV)
 |arr (sz:Nat) (l:List AV)
 |map (es:List (AV×AV))
 |tail
 |dead
 |hole
 deriving Inhabited
abbrev H:=List Blk
abbrev Fr:=Nat→AV
inductive R (α:Type) where
 |ok (a:α)
 |no (why:String)
@[reducible] def R.bind {α β : Type} : R α → (α → R β) → R β
 | .ok a,f=>f a
 | .no s,_=> .no s
def lift{α:Type}(why:String):Option α→R α
 |some a=> .ok a
 |none=> .no why
def undef:AV:= .tup []
def top:AV:= .fsl 0 []
def upd(τ:Fr)(i:Nat)(v:AV):Fr:=fun j=>Bool.casesOn (motive:=fun _=>AV) (Nat.beq j i) (τ j) v
theorem upd_eq(τ:Fr)(i:Nat)(v:AV)(j:Nat):upd τ i v j=if j=i then v else τ j:=by
 unfold upd
 by_cases h:j=i
 ·subst h;rw[if_pos rfl,Nat.beq_refl]
 ·rw[if_neg h]
  have:Nat.beq j i=false:=by
   cases hb:Nat.beq j i with
   |false=>rfl
   |true=>exact absurd (Nat.eq_of_beq_eq_true hb) h
  rw[this]
def AV.cells:AV→List AV
 | .agg cs=>cs
 |v=> [v]
def AV.toV:AV→Option Value
 | .bool b=>some (.bool b)
 | .int k n=>some (.int k n)
 | .str s=>some (.string s)
 |_=>none
def AV.leaf:AV→Bool
 | .agg _| .tup _| .fsl _ _=>false
 |_=>true
def leafOf:Value→Option AV
 | .bool b=>some (.bool b)
 | .int k n=>some (.int k n)
 | .string s=>some (.str s)
 | .pointer none=>some .nilp
 | .slice none 0 0=>some .nils
 | .map none=>some .nilm
 | .nilFunc=>some .nilf
 | .nilIface=>some .nili
 |_=>none
def leavesOf:List Value→Option (List AV)
 | []=>some []
 |v::vs=>match leafOf v,leavesOf vs with
  |some x,some xs=>some (x::xs)
  |_,_=>none
def ofV:Value→Option AV
 | .agg cs=>(leavesOf cs.toList).map .agg
 | .tuple cs=>(leavesOf cs.toList).map .tup
 |v=>leafOf v
def pureRun{α:Type}(P:Program):Sem α→Option α
 | .pure a=>some a
 | .program k=>pureRun P (k P)
 |_=>none
structure Env where
 P:Program
 C:FuncId→List AV→Option AV
 G:Nat→Option (List AV)
 M:Nat
 L:FuncId→Nat→Bool
 LC:FuncId→Bool
 S:TypeId→Bool
 B:FuncId→Bool:=fun _=>false
def ev(E:Env)(τ:Fr):Operand→R AV
 | .tmp t=>match τ t with
   | .fsl .. => .no "top"
   |v=> .ok v
 | .const v=>lift "const" (ofV v)
 | .global g=>lift "global" ((E.G g).map fun cs=> .fp cs 0)
 | .func f=> .ok (.clo f [] [])
def evs(E:Env)(τ:Fr):List Operand→R (List AV)
 | []=> .ok []
 |x::xs=>(ev E τ x).bind fun v=>(evs E τ xs).bind fun vs=> .ok (v::vs)
def evo(E:Env)(τ:Fr):Option Operand→R (Option AV)
 |none=> .ok none
 |some x=>(ev E τ x).bind fun v=> .ok (some v)
def toVs:List AV→Option (List Value)
 | []=>some []
 |v::vs=>match v.toV,toVs vs with
  |some x,some xs=>some (x::xs)
  |_,_=>none
def info(P:Program)(t:TypeId):R TypeInfo:=lift "type" (P.info? t)
def under(P:Program)(t:TypeId):R TypeDesc:=lift "type" (P.underlying t)
def size(P:Program)(t:TypeId):R Nat:=(info P t).bind fun i=> .ok i.size
def zero(P:Program)(t:TypeId):R AV:=(info P t).bind fun i=>lift "zero" (i.zero.bind ofV)
def aggT(P:Program)(t:TypeId):R Bool:=(under P t).bind fun
 | .struct _| .array _ _=> .ok true
 |_=> .ok false
def partA(P:Program)(t:TypeId)(cs:List AV)(off:Nat):R AV:=
 (aggT P t).bind fun b=>if b then(size P t).bind fun s=>if off+s≤cs.length then .ok (.agg ((cs.drop off).take s))else .no "part" else lift "part" cs[off]?
def setCells(cs:List AV)(off:Nat):List AV→List AV
 | []=>cs
 |v::vs=>setCells (cs.set off v) (off+1) vs
def mk(cs:List AV)(old:AV):AV:=match old with| .agg _=> .agg cs|_=>cs.headD old
def loadA(P:Program)(h:H)(t:TypeId):AV→R AV
 | .ptr b off=>match h[b]? with
   |some (.var cs)=>partA P t cs off
   |_=> .no "load: block"
 | .eptr b i sz off=>match h[b]? with
   |some (.arr sz' l)=>match l[i]? with
    |some x=>if sz=sz' then partA P t x.cells off else .no "load: size"
    |none=> .no "load: element"
   |_=> .no "load: array"
 | .fp cs off=>partA P t cs off
 |_=> .no "load: pointer"
def storeA(P:Program)(h:H)(t:TypeId)(v:AV):AV→R H
 | .ptr b off=>match h[b]? with
   |some (.var cs)=>(size P t).bind fun s=>if v.cells.length=s∧off+s≤cs.length∧v.cells.all AV.leaf then .ok (h.set b (.var (setCells cs off v.cells)))else .no "store: size"
   |_=> .no "store: block"
 | .eptr b i sz off=>match h[b]? with
   |some (.arr sz' l)=>match l[i]? with
    |some x=>(size P t).bind fun s=>if v.cells.length=s∧off+s≤x.cells.length∧v.cells.all AV.leaf∧sz=sz' then .ok (h.set b (.arr sz' (l.set i (mk (setCells x.cells off v.cells) x))))else .no "store: size"
    |none=> .no "store: element"
   |_=> .no "store: array"
 |_=> .no "store: pointer"
def elemsA(h:H):AV→R (List AV)
 | .nils=> .ok []
 | .lst _ l _=> .ok l
 | .sl b off len sz _=>match h[b]? with
   |some (.arr sz' l)=>if off+len≤l.length∧sz=sz' then .ok ((l.drop off).take len)else .no "elems"
   |_=> .no "elems: dead"
 | .vsl b off len _=>match h[b]? with
   |some (.var l)=>if off+len≤l.length∧((l.drop off).take len).all AV.leaf then .ok ((l.drop off).take len)else .no "elems"
   |_=> .no "elems: dead"
 |_=> .no "elems: slice"
def lenA:AV→R Nat
 | .nils=> .ok 0
 | .lst _ l _=> .ok l.length
 | .sl _ _ len _ _=> .ok len
 | .vsl _ _ len _=> .ok len
 |_=> .no "len"
def szA:AV→Nat→Bool
 | .nils,_=>true
 | .lst sz _ _,s| .sl _ _ _ sz _,s=>sz==s
 | .vsl ..,s=>s==1
 |_,_=>false
def intA:AV→R Int
 | .int _ n=> .ok n
 |_=> .no "int"
def boundA:Option AV→Nat→R Nat
 |none,d=> .ok d
 |some v,_=>(intA v).bind fun n=>if 0≤n then .ok n.toNat else .no "bound"
def cutA(x:AV)(l h n:Nat)(cut:Bool):R AV:=
 match x with
 | .nils=> .ok .nils
 | .lst sz xs tl=> .ok (.lst sz ((xs.drop l).take (h-l)) (if cut then .clip else if h=n then tl else .open_))
 | .sl b off _ sz c=> .ok (.sl b (off+l) (h-l) sz (cut||(c&&h==n)))
 | .vsl b off _ c=> .ok (.vsl b (off+l) (h-l) (cut||(c&&h==n)))
 |_=> .no "slice"
def sliceA(P:Program)(t:TypeId)(x:AV)(lo hi mx:Option AV):R AV:=
 (under P t).bind fun
 | .string=>match x with
   | .str s=>(boundA lo 0).bind fun l=>(boundA hi s.size).bind fun h=>if l≤h∧h≤s.size∧mx.isNone then .ok (.str (s.extract l h))else .no "slice: bounds"
   |_=> .no "slice"
 | .slice e=>(size P e).bind fun sz=>(lenA x).bind fun n=>(boundA lo 0).bind fun l=>(boundA hi n).bind fun h=>(boundA mx h).bind fun m=>
   if l≤h∧h≤n∧m=h∧szA x sz∧(mx.isNone∨hi.isSome)then cutA x l h n mx.isSome else .no "slice: bounds"
 | .array n e=>(size P e).bind fun sz=>(boundA lo 0).bind fun l=>(boundA hi n).bind fun h=>
   if l≤h∧h≤n∧mx.isNone∧sz=1 then match x with
    | .ptr b off=> .ok (.vsl b (off+l) (h-l) false)
    |_=> .no "slice: array"
   else .no "slice: bounds"
 |_=> .no "slice: type"
def fillA(place:Nat→Option (Nat×Nat))(cells:List AV):List (Nat×AV)→R (List AV)
 | []=> .ok cells
 |(i,v)::rest=>match place i with
  |none=> .no "fill"
  |some (off,sz)=>if v.cells.length=sz∧off+sz≤cells.length then fillA place (setCells cells off v.cells) rest else .no "fill: size"
def sizesR(P:Program):List Field→R (List (Nat×Nat))
 | []=> .ok []
 |f::fs=>(size P f.type).bind fun s=>(sizesR P fs).bind fun r=> .ok ((f.offset,s)::r)
def buildA(P:Program)(t:TypeId)(parts:List (Nat×AV)):R AV:=
 (zero P t).bind fun z=>(under P t).bind fun
 | .struct fs=>(sizesR P fs.toList).bind fun ps=>(fillA (fun i=>ps[i]?) z.cells parts).bind fun cs=> .ok (.agg cs)
 | .array _ e=>(size P e).bind fun s=>(fillA (fun i=>some (i*s,s)) z.cells parts).bind fun cs=> .ok (.agg cs)
 |_=> .no "build"
def fillE(sz:Nat)(l:List AV):List (Nat×AV)→R (List AV)
 | []=> .ok l
 |(i,v)::rest=>if v.cells.length=sz∧i<l.length then fillE sz (l.set i v) rest else .no "fillE"
mutual
def eqT(P:Program)(S:TypeId→Bool):Nat→TypeId→AV→AV→Option Bool
 |0,_,_,_=>none
 |d+1,t,x,y=>match P.underlying t,x,y with
  |some .bool, .bool a, .bool b=>some (a==b)
  |some (.int _), .int k a, .int k' b=>if k=k' then some (a==b)else none
  |some .string, .str a, .str b=>some (a==b)
  |some (.struct fs), .agg xs, .agg ys=>if S t then eqF P S d fs.toList xs ys else none
  |_,_,_=>none
 termination_by structural d=>d
def eqF(P:Program)(S:TypeId→Bool):Nat→List Field→List AV→List AV→Option Bool
 |0,_,_,_=>none
 |_+1,[],_,_=>some true
 |d+1,f::fs,xs,ys=>if f.name== "_" then none else match partA P f.type xs f.offset,partA P f.type ys f.offset with
  | .ok a, .ok b=>match eqT P S d f.type a b,eqF P S d fs xs ys with
    |some p,some q=>some (p&&q)
    |_,_=>none
  |_,_=>none
 termination_by structural d=>d
end
def eqA(P:Program)(S:TypeId→Bool)(t:TypeId)(x y:AV):R Bool:=
 (under P t).bind fun d=>match d,x,y with
 | .pointer _, .nilp, .nilp| .slice _, .nils, .nils| .map .., .nilm, .nilm| .func .., .nilf, .nilf=> .ok true
 | .pointer _, .nilp, .ptr .. | .pointer _, .nilp, .eptr .. | .pointer _, .nilp, .fp .. | .pointer _, .ptr .., .nilp| .pointer _, .eptr .., .nilp| .pointer _, .fp .., .nilp=> .ok false
 | .slice _, .nils, .lst _ (_::_) _| .slice _, .nils, .sl .. | .slice _, .lst _ (_::_) _, .nils| .slice _, .sl .., .nils=> .ok false
 | .pointer e, .ptr b off, .ptr b' off'=>(size P e).bind fun s=>if b=b'∧s≠0 then .ok (off==off')else .no "eq: pointers"
 | .map .., .nilm, .map _| .map .., .map _, .nilm| .func .., .nilf, .clo .. | .func .., .clo .., .nilf=> .ok false
 | .struct _, .agg xs, .agg ys=>if P.eqGuardType P.depth t then .no "eq: guard" else lift "eq" (eqT P S 99 t (.agg xs) (.agg ys))
 |_,_,_=> .no "eq"
def plain1:AV→AV→Bool
 | .bool a, .bool b=>a==b
 | .int j a, .int k b=>j==k&&a==b
 | .str a, .str b=>a==b
 |_,_=>false
def plains:List AV→List AV→Bool
 | [],[]=>true
 |x::xs,y::ys=>plain1 x y&&plains xs ys
 |_,_=>false
def plainEq:AV→AV→Bool
 | .agg xs, .agg ys=>plains xs ys
 |x,y=>plain1 x y
def toBytes:List AV→R (List UInt8)
 | []=> .ok []
 | .int .u8 n::vs=>(toBytes vs).bind fun r=> .ok (UInt8.ofNat n.toNat::r)
 |_=> .no "bytes"
def ofBytes(s:ByteArray):List AV:=s.data.toList.map fun c:UInt8=>AV.int .u8 c.toNat
mutual
def keyA(P:Program):Nat→TypeId→AV→Bool
 |0,_,_=>false
 |d+1,t,x=>match P.underlying t,x with
  |some .bool,_|some (.int _),_|some .string,_=>true
  |some (.struct fs), .agg cs=>keyF P d fs.toList cs
  |_,_=>false
 termination_by structural d=>d
def keyF(P:Program):Nat→List Field→List AV→Bool
 |0,_,_=>false
 |_+1,[],_=>true
 |d+1,f::fs,cs=>match partA P f.type cs f.offset with
  | .ok v=>keyA P d f.type v&&keyF P d fs cs
  | .no _=>false
 termination_by structural d=>d
end
def find(eq:AV→AV→Option Bool)(k:AV):List (AV×AV)→Option (Option (Nat×AV))
 | []=>some none
 |(a,v)::es=>match eq k a with
  |some true=>some (some (0,v))
  |some false=>(find eq k es).map fun r=>r.map fun(i,v)=>(i+1,v)
  |none=>none
def binA(P:Program)(S:TypeId→Bool)(op:BinOp)(t:TypeId)(x y:AV):R AV:=
 match x.toV,y.toV with
 |some a,some b=>lift "binOp" ((pureRun P (binOp op t a b)).bind ofV)
 |_,_=>match op with
  | .eql=>(eqA P S t x y).bind fun b=> .ok (.bool b)
  | .neq=>(eqA P S t x y).bind fun b=> .ok (.bool (!b))
  |_=> .no "binOp"
def mapOf(h:H):AV→R (List (AV×AV))
 | .nilm=> .ok []
 | .map b=>match h[b]? with
   |some (.map es)=> .ok es
   |_=> .no "map"
 |_=> .no "map"
inductive Kind where
 |pure|read|light|alloc|heavy|call
 deriving DecidableEq
def isSliceT(P:Program)(t:TypeId):Bool:=match P.underlying t with|some (.slice _)=>true|_=>false
def isMapT(P:Program)(t:TypeId):Bool:=match P.underlying t with|some (.map ..)=>true|_=>false
def kindOf(E:Env):Op→Kind
 | .alloc _| .box .. | .buildSlice .. | .makeSlice .. | .makeMap .. => .alloc
 | .load .. | .lookup .. => .read
 | .store .. | .mapUpdate .. | .insert .. => .heavy
 | .convert src dst _=>if isSliceT E.P src then(if isSliceT E.P dst then .heavy else .read)else if isSliceT E.P dst then .alloc else .pure
 | .call {callee:= .builtin b,argTypes, .. }=>match b with
   | .len=>if isMapT E.P (argTypes.getD 0 0)then .read else .pure
   | .min| .max=> .pure
   |_=> .heavy
 | .call {callee:= .value (.func g), .. }=>if E.LC g then .light else .call
 | .call _=> .call
 |_=> .pure
def indexA(P:Program)(t:TypeId)(x:AV)(i:Int):R AV:=
 (under P t).bind fun
  | .slice e=>(size P e).bind fun s=>(lenA x).bind fun n=>if 0≤i∧i<n∧szA x s then(match x with
    | .lst _ l _=>match l[i.toNat]? with|some v=> .ok (.fp v.cells 0)|none=> .no "index"
    | .sl b off _ sz _=> .ok (.eptr b (off+i.toNat) sz 0)
    | .vsl b off _ _=> .ok (.ptr b (off+i.toNat))
    |_=> .no "index")else .no "index: bounds"
  | .array n e=>(size P e).bind fun s=>if 0≤i∧i<n then(match x with
    | .ptr b off=> .ok (.ptr b (off+i.toNat*s))
    | .eptr b j sz off=> .ok (.eptr b j sz (off+i.toNat*s))
    | .fp cs off=> .ok (.fp cs (off+i.toNat*s))
    |_=> .no "index")else .no "index: bounds"
  |_=> .no "index"
def pureA(E:Env)(τ:Fr)(o:Oper):R AV:=
 match o.op with
 | .move x| .assign x=>ev E τ x
 | .pick c a b=>(ev E τ c).bind fun
   | .bool true=>ev E τ a
   | .bool false=>ev E τ b
   |_=> .no "pick"
 | .build t parts=>(evs E τ (parts.toList.map (·.2))).bind fun vs=>buildA E.P t ((parts.toList.map (·.1)).zip vs)
 | .nilCheck x=>(ev E τ x).bind fun
   | .nilp| .nilf| .nili=> .no "nil"
   |v=> .ok v
 | .binOp op t x y _=>(ev E τ x).bind fun a=>(ev E τ y).bind fun b=>binA E.P E.S op t a b
 | .unOp op _ x=>(ev E τ x).bind fun a=>lift "unOp" (a.toV.bind fun v=>(pureRun E.P (Op.unary op v)).bind ofV)
 | .convert src dst x=>(ev E τ x).bind fun a=>(under E.P src).bind fun us=>(under E.P dst).bind fun ud=>match us,ud,a with
   | .int _, .int k, .int _ n=> .ok (.int k (k.wrap n))
   | .string, .string, .str s=> .ok (.str s)
   |_,_,_=> .no "convert"
 | .makeFunc fn first caps=>match fn with
   | .func f=>(evs E τ first.toList).bind fun vs=>(evs E τ caps.toList).bind fun cs=> .ok (.clo f vs cs)
   |_=> .no "makeFunc"
 | .slice t x lo hi mx=>(ev E τ x).bind fun a=>(evo E τ lo).bind fun lo=>(evo E τ hi).bind fun hi=>(evo E τ mx).bind fun mx=>sliceA E.P t a lo hi mx
 | .fieldAddr s x f=>(ev E τ x).bind fun p=>(under E.P s).bind fun
   | .struct fs=>(lift "field" fs[f]?).bind fun fd=>(size E.P fd.type).bind fun z=>if z=0 then .no "field: size" else match p with
     | .ptr b off=> .ok (.ptr b (off+fd.offset))
     | .eptr b i sz off=> .ok (.eptr b i sz (off+fd.offset))
     | .fp cs off=> .ok (.fp cs (off+fd.offset))
     |_=> .no "fieldAddr"
   |_=> .no "fieldAddr"
 | .field t x f=>(ev E τ x).bind fun v=>(under E.P t).bind fun
   | .struct fs=>(lift "field" fs[f]?).bind fun fd=>match v with
     | .agg cs=>partA E.P fd.type cs fd.offset
     |_=> .no "field"
   |_=> .no "field"
 | .indexAddr t x ix=>(ev E τ x).bind fun x=>(ev E τ ix).bind fun i=>(intA i).bind fun i=>indexA E.P t x i
 | .index t x ix=>(ev E τ x).bind fun x=>(ev E τ ix).bind fun i=>match x,i with
   | .str s, .int k n=>lift "index" ((pureRun E.P (Instr.index t (.string s) (.int k n))).bind ofV)
   | .agg cs, .int _ n=>(under E.P t).bind fun
     | .array len e=>(size E.P e).bind fun s=>if 0≤n∧n<len then partA E.P e cs (n.toNat*s)else .no "index: bounds"
     |_=> .no "index"
   |_,_=> .no "index"
 | .extract t i=>(ev E τ t).bind fun
   | .tup vs=>lift "extract" vs[i]?
   |_=> .no "extract"
 | .call {callee:= .builtin b,args,argTypes}=>(evs E τ args.toList).bind fun vs=>match b,vs with
   | .len,[.str s]=>(lift "len" argTypes[0]?).bind fun t=>(under E.P t).bind fun
     | .string=> .ok (.int .i64 s.size)
     |_=> .no "len"
   | .len,[x]=>(lift "len" argTypes[0]?).bind fun t=>(under E.P t).bind fun
     | .slice _=>(lenA x).bind fun n=> .ok (.int .i64 n)
     |_=> .no "len"
   | .min,vs| .max,vs=>(lift "minmax" (toVs vs)).bind fun vs=>lift "minmax" ((pureRun E.P (if b== .min then Builtin.min_ argTypes o.type vs.toArray else Builtin.max_ argTypes o.type vs.toArray)).bind ofV)
   |_,_=> .no "builtin"
 |_=> .no "op"
def readA(E:Env)(τ:Fr)(h:H)(o:Oper):R AV:=
 match o.op with
 | .load t a=>(ev E τ a).bind fun p=>loadA E.P h t p
 | .convert src dst x=>(ev E τ x).bind fun a=>(under E.P src).bind fun us=>(under E.P dst).bind fun ud=>match us,ud with
   | .slice e, .string=>(under E.P e).bind fun
     | .int .u8=>(size E.P e).bind fun s=>if szA a s&&s==1 then(elemsA h a).bind fun l=>(toBytes l).bind fun bs=> .ok (.str ⟨bs.toArray⟩)else .no "convert"
     |_=> .no "convert"
   |_,_=> .no "convert"
 | .lookup t m k ok=>(ev E τ m).bind fun m=>(ev E τ k).bind fun k=>(under E.P t).bind fun
   | .map kt e=>(mapOf h m).bind fun es=>(zero E.P e).bind fun z=>if keyA E.P 99 kt k=false then .no "lookup: key" else(lift "lookup: key" (find (eqT E.P E.S 99 kt) k es)).bind fun r=>
     let v:=match r with|some (_,v)=>v|none=>z
     if ok then .ok (.tup [v, .bool r.isSome])else .ok v
   |_=> .no "lookup"
 | .call {callee:= .builtin .len,args,argTypes}=>(evs E τ args.toList).bind fun
   | [x]=>(lift "len" argTypes[0]?).bind fun t=>(under E.P t).bind fun
     | .map .. =>(mapOf h x).bind fun es=> .ok (.int .i64 es.length)
     |_=> .no "len"
   |_=> .no "len"
 |_=> .no "op"
def locB(E:Env)(f:FuncId)(dst:Option Nat):Bool:=match dst with
 |some d=>E.L f d
 |none=>false
def newSl(E:Env)(f:FuncId)(dst:Option Nat)(id sz:Nat)(l:List AV):AV×Blk:=
 match locB E f dst with
 |true=>(.sl id 0 l.length sz false, .arr sz l)
 |false=>(.lst sz l (.own id), .tail)
def allocA(E:Env)(f:FuncId)(τ:Fr)(id:Nat)(o:Oper):R (AV×Blk):=
 match o.op with
 | .alloc t=>(zero E.P t).bind fun z=> .ok (.ptr id 0, .var z.cells)
 | .box _ x=>(ev E τ x).bind fun v=>if v.cells.all AV.leaf then .ok (.ptr id 0, .var v.cells)else .no "box"
 | .buildSlice t n parts=>(evs E τ (parts.toList.map (·.2))).bind fun vs=>(under E.P t).bind fun
   | .slice e=>(size E.P e).bind fun sz=>(zero E.P e).bind fun z=>if z.cells.length=sz∧n*sz≤16777216 then(fillE sz (List.replicate n z) ((parts.toList.map (·.1)).zip vs)).bind fun l=> .ok (newSl E f o.dst id sz l)else .no "buildSlice"
   |_=> .no "buildSlice"
 | .makeMap _ none=> .ok (.map id, .map [])
 | .makeSlice t l c=>(under E.P t).bind fun
   | .slice e=>(info E.P e).bind fun i=>(zero E.P e).bind fun z=>(ev E τ l).bind fun l=>(ev E τ c).bind fun c=>(intA l).bind fun n=>(intA c).bind fun m=>
     if 0≤n∧n≤m∧m*i.bytes≤140737488355328∧m≤140737488355328∧z.cells.length=i.size then .ok (newSl E f o.dst id i.size (List.replicate n.toNat z))else .no "makeSlice"
   |_=> .no "makeSlice"
 | .convert src dst x=>(ev E τ x).bind fun a=>(under E.P src).bind fun us=>(under E.P dst).bind fun ud=>match us,ud,a with
   | .string, .slice e, .str s=>(under E.P e).bind fun
     | .int .u8=>(size E.P e).bind fun sz=>if sz=1 then .ok (newSl E f o.dst id 1 (ofBytes s))else .no "convert"
     |_=> .no "convert"
   |_,_,_=> .no "convert"
 |_=> .no "op"
def newsA(P:Program)(sz:Nat)(xt:TypeId)(x:AV)(h:H):R (List AV):=
 (under P xt).bind fun
 | .slice _=>if szA x sz then elemsA h x else .no "append: size"
 | .string=>match x with
   | .str b=>if sz=1 then .ok (ofBytes b)else .no "append: string"
   |_=> .no "append"
 |_=> .no "append"
def zerosA(i:TypeInfo)(z:AV)(x:AV):R (List AV):=match x with
 | .int _ n=>if 0≤n∧n≤9223372036854775807∧n*i.bytes≤200000000000000 then .ok (List.replicate n.toNat z)else .no "append: number"
 |_=> .no "append: number"
def newsI(P:Program)(i:TypeInfo)(z:AV)(xt:TypeId)(x:AV)(h:H):R (List AV):=match P.underlying xt with
 |some (.int _)=>zerosA i z x
 |_=>newsA P i.size xt x h
def appendA(E:Env)(f:FuncId)(dst:Option Nat)(st xt:TypeId)(s x:AV)(h:H):R (AV×H):=
 (under E.P st).bind fun
 | .slice e=>(info E.P e).bind fun i=>(zero E.P e).bind fun z=>(newsI E.P i z xt x h).bind fun new=>(lenA s).bind fun n=>
   if szA s i.size∧(n+new.length)*i.bytes≤200000000000000∧n+new.length≤200000000000000∧0<i.bytes∧i.bytes≤1000000∧z.cells.length=i.size∧(new.all fun y=>y.cells.all AV.leaf)=true then match s with
   | .nils=>if new.isEmpty then .ok (.nils,h)else .ok ((newSl E f dst h.length i.size new).1,h++ [(newSl E f dst h.length i.size new).2])
   | .lst sz old .clip=>if new.isEmpty then .ok (.lst sz old .clip,h)else .ok ((newSl E f dst h.length sz (old++new)).1,h++ [(newSl E f dst h.length sz (old++new)).2])
   | .lst sz old (.own t)=>match h[t]? with
     |some .tail=> .ok (.lst sz (old++new) (.own h.length),h.set t .dead++ [.tail])
     |_=> .no "append: spent"
   | .sl b off len sz clip=>(elemsA h s).bind fun old=>
     if clip then(if new.isEmpty then .ok (s,h)else .ok ((newSl E f dst h.length sz (old++new)).1,h++ [(newSl E f dst h.length sz (old++new)).2]))
     else if off=0 then .ok (.sl h.length 0 (old++new).length sz false,h.set b .dead++ [.arr sz (old++new)])else .no "append: middle"
   |_=> .no "append"
   else .no "append: room"
 |_=> .no "append"
def copyA(P:Program)(dt st:TypeId)(d s:AV)(h:H):R (AV×H):=
 (under P dt).bind fun
 | .slice e=>(size P e).bind fun sz=>(newsA P sz st s h).bind fun new=>match d with
   | .sl b off len sz' _=>match h[b]? with
     |some (.arr sz'' l)=>let n:=min new.length len
       if sz=sz'∧sz'=sz''∧off+len≤l.length∧(new.all fun y=>y.cells.all AV.leaf)=true then .ok (.int .i64 n,h.set b (.arr sz'' (l.take off++new.take n++l.drop (off+n))))else .no "copy"
     |_=> .no "copy"
   | .nils=> .ok (.int .i64 0,h)
   |_=> .no "copy"
 |_=> .no "copy"
def clearA(P:Program)(t:TypeId)(x:AV)(h:H):R (AV×H):=
 (under P t).bind fun
 | .slice e=>(info P e).bind fun i=>(zero P e).bind fun z=>match x with
   | .nils=> .ok (.tup [],h)
   | .sl b off len sz _=>match h[b]? with
     |some (.arr sz' l)=>if sz=i.size∧sz=sz'∧off+len≤l.length∧z.cells.length=sz∧z.cells.all AV.leaf=true then .ok (.tup [],h.set b (.arr sz (l.take off++List.replicate len z++l.drop (off+len))))else .no "clear"
     |_=> .no "clear"
   |_=> .no "clear"
 |_=> .no "clear"
def heavyA(E:Env)(f:FuncId)(τ:Fr)(h:H)(o:Oper):R (AV×H):=
 match o.op with
 | .convert src dst x=>(ev E τ x).bind fun v=>(under E.P src).bind fun us=>match us,v with
   | .slice e, .sl b off n sz _=>(under E.P e).bind fun ue=>match ue,h[b]? with
     | .int .u8,some (.arr sz' l)=>if src=dst∧sz=1∧sz'=1∧off+n≤l.length then .ok (.lst 1 ((l.drop off).take n) .open_,h.set b .dead)else .no "convert: slice"
     |_,_=> .no "convert: spent"
   |_,_=> .no "convert: slice"
 | .store t a x=>(ev E τ a).bind fun p=>(ev E τ x).bind fun v=>(storeA E.P h t v p).bind fun h'=> .ok (undef,h')
 | .mapUpdate t m k x| .insert t m k x=>(ev E τ m).bind fun m=>(ev E τ k).bind fun k=>(ev E τ x).bind fun v=>(under E.P t).bind fun
   | .map kt _=>match m with
     | .map b=>match h[b]? with
       |some (.map es)=>if keyA E.P 99 kt k=false then .no "mapUpdate: key" else(lift "mapUpdate: key" (find (eqT E.P E.S 99 kt) k es)).bind fun
        |some (i,_)=>match es[i]? with
         |some e=>if plainEq k e.1 then .ok (undef,h.set b (.map (es.set i (k,v))))else .no "mapUpdate: key"
         |none=> .no "mapUpdate"
        |none=> .ok (undef,h.set b (.map (es++ [(k,v)])))
       |_=> .no "mapUpdate"
     |_=> .no "mapUpdate"
   |_=> .no "mapUpdate"
 | .call {callee:= .builtin b,args,argTypes}=>(evs E τ args.toList).bind fun vs=>match b,vs with
   | .append,[s,x]=>(lift "append" argTypes[0]?).bind fun t=>(lift "append" argTypes[1]?).bind fun u=>appendA E f o.dst t u s x h
   | .copy,[d,s]=>(lift "copy" argTypes[0]?).bind fun t=>(lift "copy" argTypes[1]?).bind fun u=>copyA E.P t u d s h
   | .clear,[x]=>(lift "clear" argTypes[0]?).bind fun t=>clearA E.P t x h
   |_,_=> .no "builtin"
 |_=> .no "op"
inductive X where
 |normal|ret|exit (id:Nat)
 deriving DecidableEq
abbrev CallF:=FuncId→List AV→H→R (AV×H)
mutual
def thaw(h:H):AV→AV×H
 | .fsl sz l=>(.lst sz l (.own h.length),h++ [.tail])
 | .agg cs=>let(cs,h):=thaws h cs;(.agg cs,h)
 | .tup cs=>let(cs,h):=thaws h cs;(.tup cs,h)
 |v=>(v,h)
def thaws(h:H):List AV→List AV×H
 | []=>([],h)
 |v::vs=>let(v,h):=thaw h v;let(vs,h):=thaws h vs;(v::vs,h)
end
mutual
def noF:AV→Bool
 | .fsl _ _=>false
 | .agg cs=>noFs cs
 | .tup cs=>noFs cs
 |_=>true
def noFs:List AV→Bool
 | []=>true
 |v::vs=>noF v&&noFs vs
end
def callA(E:Env)(call:CallF)(τ:Fr)(h:H)(o:Oper):R (AV×H):=
 match o.op with
 | .call {callee:= .value g,args, .. }=>(ev E τ g).bind fun
   | .clo g first caps=>(evs E τ args.toList).bind fun vs=>match E.C g (first++vs++caps)with
     |some r=> .ok (thaw h r)
     |none=>call g (first++vs++caps) h
   |_=> .no "call"
 |_=> .no "call"
def lightA(E:Env)(τ:Fr)(o:Oper):R AV:=
 match o.op with
 | .call {callee:= .value (.func g),args, .. }=>(evs E τ args.toList).bind fun vs=>match E.C g vs with
   |some r=>if noF r then .ok r else .no "light: fresh"
   |none=> .no "light"
 |_=> .no "light"
def opA(E:Env)(f:FuncId)(call:CallF)(τ:Fr)(h:H)(o:Oper):R (AV×H):=
 match kindOf E o.op with
 | .pure=>(pureA E τ o).bind fun v=> .ok (v,h)
 | .read=>(readA E τ h o).bind fun v=> .ok (v,h)
 | .light=>(lightA E τ o).bind fun v=> .ok (v,h)
 | .alloc=>(allocA E f τ h.length o).bind fun(v,b)=> .ok (v,h++ [b])
 | .heavy=>heavyA E f τ h o
 | .call=>callA E call τ h o
def depOf:AV→Option Nat
 | .ptr b _| .eptr b _ _ _| .sl b _ _ _ _| .vsl b _ _ _| .map b=>some b
 |_=>none
def readDep(E:Env)(τ:Fr)(o:Oper):Option Nat:=
 match o.op with
 | .load _ x| .convert _ _ x=>match ev E τ x with| .ok v=>depOf v|_=>none
 | .lookup _ m _ _=>match ev E τ m with| .ok v=>depOf v|_=>none
 | .call {args, .. }=>match args.toList with| [x]=>(match ev E τ x with| .ok v=>depOf v|_=>none)|_=>none
 |_=>none
def wantA(ops:Array Oper)(τ:Fr)(o:Oper):Bool:=
 match o.guard with
 |none=>true
 |some (j,want)=>match(ops[j]?).bind (·.dst)with
  |some d=>match τ d with
   | .bool b=>b==want
   |_=>false
  |none=>false
def gtop(ops:Array Oper)(τ:Fr)(o:Oper):Bool:=
 match o.guard with
 |none=>false
 |some (j,_)=>match(ops[j]?).bind (·.dst)with
  |some d=>match τ d with
   | .fsl .. =>true
   |_=>false
  |none=>false
def putA(N:Nat)(τ:Fr)(dst:Option Nat)(v:AV):R Fr:=
 match dst with
 |some d=>(match Nat.ble (d+1) N with
  |true=> .ok (upd τ d v)
  |false=> .no "slot")
 |none=> .ok τ
theorem putA_some(N:Nat)(τ:Fr)(d:Nat)(v:AV):putA N τ (some d) v=if d<N then .ok (upd τ d v)else .no "slot" :=by
 simp only[putA]
 by_cases h:d<N
 ·rw[if_pos h];rw[show Nat.ble (d+1) N=true from Nat.ble_eq.mpr h]
 ·rw[if_neg h]
  cases hb:Nat.ble (d+1) N with
  |false=>rfl
  |true=>exact absurd (Nat.ble_eq.mp hb) h
def stepA(E:Env)(f:FuncId)(call:CallF)(N:Nat)(ops:Array Oper)(τ:Fr)(h:H)(o:Oper):R (Fr×H):=
 if gtop ops τ o then .no "guard" else if wantA ops τ o then
  match opA E f call τ h o with
  | .ok (v,h')=>(putA N τ o.dst v).bind fun τ'=> .ok (τ',h')
  | .no s=> .no (s++ " @ " ++o.pos)
 else(putA N τ o.dst undef).bind fun τ'=> .ok (τ',h)
def opsA(E:Env)(f:FuncId)(call:CallF)(N:Nat)(ops:Array Oper):List Oper→Fr→H→R (Fr×H)
 | [],τ,h=> .ok (τ,h)
 |o::rest,τ,h=>(stepA E f call N ops τ h o).bind fun(τ',h')=>opsA E f call N ops rest τ' h'
def isAl(E:Env)(o:Oper):Bool:=match kindOf E o.op with
 | .alloc=>true
 |_=>false
def alsOf(E:Env)(l:List Oper):Nat:=(l.filter (isAl E)).length
def stepD(E:Env)(f:FuncId)(call:CallF)(N:Nat)(ops:Array Oper)(id:Nat)(τ:Fr)(h:H)(o:Oper):R (Fr×H):=
 if isAl E o then
  if gtop ops τ o then .no "guard" else if wantA ops τ o then
   match h[id]? with
   |some .hole=>match allocA E f τ id o with
    | .ok (v,b)=>(putA N τ o.dst v).bind fun τ'=> .ok (τ',h.set id b)
    | .no s=> .no (s++ " @ " ++o.pos)
   |_=> .no "hole"
  else(putA N τ o.dst undef).bind fun τ'=> .ok (τ',h)
 else stepA E f call N ops τ h o
def traceA(E:Env)(f:FuncId)(call:CallF)(N:Nat)(ops:Array Oper):List Oper→Nat→Fr→H→R (List (Fr×H)×(Fr×H))
 | [],_,τ,h=> .ok ([],(τ,h))
 |o::rest,id,τ,h=>(stepD E f call N ops id τ h o).bind fun(τ',h')=>(traceA E f call N ops rest (if isAl E o then id+1 else id) τ' h').bind fun(l,r)=> .ok ((τ,h)::l,r)
def maskOf(acc:List Nat)(o:Oper):Nat:=o.after.toList.foldl (fun s e=>if Region.binds .any e then s|||2 ^ e.on|||acc.getD e.on 0 else s) 0
def masksA:List Oper→List Nat→List Nat
 | [],acc=>acc
 |o::os,acc=>masksA os (acc++ [maskOf acc o])
def isO(E:Env)(o:Oper):Bool:=match kindOf E o.op with
 | .alloc| .heavy| .call=>true
 |_=>false
def opAt(ops:Array Oper)(i:Nat):Oper:=ops.getD i default
def apartB(ops:Array Oper)(x y:Oper):Bool:=
 (match x.dst with
  |some d=>!(y.looksAt ops).contains d&&y.dst !=some d
  |none=>true)&&
 (match y.dst with
  |some d=>!(x.looksAt ops).contains d
  |none=>true)
def freeB(E:Env)(x y:Oper):Bool:=!(isO E x&&isO E y)||isAl E y
def drawS(E:Env)(ops:Array Oper)(ms:List Nat):Bool:=
 (List.range ops.size).all fun j=>
  ((opAt ops j).after.toList.all fun e=>!Region.binds .any e||decide (e.on<j))&&
  (List.range j).all fun i=>(ms.getD j 0).testBit i||(freeB E (opAt ops i) (opAt ops j)&&apartB ops (opAt ops i) (opAt ops j))
def idAt(E:Env)(ops:Array Oper)(base i:Nat):Nat:=base+alsOf E (ops.toList.take i)
def pairsA(E:Env)(ops:Array Oper)(ms:List Nat):List (Nat×Nat):=
 (List.range ops.size).flatMap fun j=>if kindOf E (opAt ops j).op= .read then
  ((List.range ops.size).filter fun i=>isO E (opAt ops i)&&!(i==j)&&!(ms.getD j 0).testBit i&&!(ms.getD i 0).testBit j).map fun i=>(j,i)else []
mutual
def same:AV→AV→Bool
 | .bool a, .bool b=>a==b
 | .int j a, .int k b=>decide (j=k)&&decide (a=b)
 | .str a, .str b=>decide (a=b)
 | .nilp, .nilp| .nils, .nils| .nilm, .nilm| .nilf, .nilf| .nili, .nili=>true
 | .ptr b o, .ptr b' o'=>decide (b=b')&&decide (o=o')
 | .eptr b i s o, .eptr b' i' s' o'=>decide (b=b')&&decide (i=i')&&decide (s=s')&&decide (o=o')
 | .fp l o, .fp l' o'=>sames l l'&&decide (o=o')
 | .sl b o n s c, .sl b' o' n' s' c'=>decide (b=b')&&decide (o=o')&&decide (n=n')&&decide (s=s')&&decide (c=c')
 | .vsl b o n c, .vsl b' o' n' c'=>decide (b=b')&&decide (o=o')&&decide (n=n')&&decide (c=c')
 | .lst s l t, .lst s' l' t'=>decide (s=s')&&sames l l'&&decide (t=t')
 | .fsl s l, .fsl s' l'=>decide (s=s')&&sames l l'
 | .map b, .map b'=>decide (b=b')
 | .clo f l m, .clo f' l' m'=>decide (f=f')&&sames l l'&&sames m m'
 | .agg l, .agg l'=>sames l l'
 | .tup l, .tup l'=>sames l l'
 |_,_=>false
def sames:List AV→List AV→Bool
 | [],[]=>true
 |x::xs,y::ys=>same x y&&sames xs ys
 |_,_=>false
end
def samePairs:List (AV×AV)→List (AV×AV)→Bool
 | [],[]=>true
 |x::xs,y::ys=>same x.1 y.1&&same x.2 y.2&&samePairs xs ys
 |_,_=>false
def sameBlk:Option Blk→Option Blk→Bool
 |none,none=>true
 |some (.var l),some (.var l')=>sames l l'
 |some (.arr s l),some (.arr s' l')=>decide (s=s')&&sames l l'
 |some (.map l),some (.map l')=>samePairs l l'
 |some .tail,some .tail|some .dead,some .dead|some .hole,some .hole=>true
 |_,_=>false
def heapAt(tr:List (Fr×H))(last:H)(i:Nat):H:=match tr[i]? with
 |some p=>p.2
 |none=>last
def frameAt(tr:List (Fr×H))(last:Fr)(i:Nat):Fr:=match tr[i]? with
 |some p=>p.1
 |none=>last
def sameR:R AV→R AV→Bool
 | .ok a, .ok b=>same a b
 |_,_=>false
def drawD(E:Env)(ops:Array Oper)(tr:List (Fr×H))(lt:Fr)(lh:H)(ps:List (Nat×Nat)):Bool:=
 ps.all fun(j,i)=>(match readDep E (frameAt tr lt j) (opAt ops j)with
  |some b=>sameBlk (heapAt tr lh i)[b]? (heapAt tr lh (i+1))[b]?
  |none=>true)||sameR (readA E (frameAt tr lt j) (heapAt tr lh i) (opAt ops j)) (readA E (frameAt tr lt j) (heapAt tr lh (i+1)) (opAt ops j))
def drawL(E:Env)(ops:Array Oper)(tr:List (Fr×H))(lt:Fr)(base:Nat):Bool:=
 (List.range ops.size).all fun j=>if kindOf E (opAt ops j).op= .read then
  (match readDep E (frameAt tr lt j) (opAt ops j)with
   |some b=>(List.range ops.size).all fun i=>decide (i<j)||!isAl E (opAt ops i)||b !=idAt E ops base i
   |none=>true)else true
def drawH(E:Env)(ops:Array Oper)(tr:List (Fr×H))(lh:H)(base:Nat):Bool:=
 (List.range ops.size).all fun i=>!isAl E (opAt ops i)||(List.range (i+1)).all fun m=>sameBlk (heapAt tr lh m)[idAt E ops base i]? (some .hole)
def regionA(E:Env)(f:FuncId)(call:CallF)(N:Nat)(ops:Array Oper)(draw:Bool)(τ:Fr)(h:H):R (Fr×H):=
 match draw with
 |false=>opsA E f call N ops ops.toList τ h
 |true=>(traceA E f call N ops ops.toList h.length τ (h++List.replicate (alsOf E ops.toList) .hole)).bind fun(tr,(τ',h'))=>
  if drawS E ops (masksA ops.toList [])=true then
   if drawD E ops tr τ' h' (pairsA E ops (masksA ops.toList []))=true then
    if drawL E ops tr τ' h.length=true then
     if drawH E ops tr h' h.length=true then .ok (τ',h')else .no "draw: kept"
    else .no "draw: later"
   else .no "draw: read"
  else .no "draw: order"
def loOf(ops:Array Oper):Nat:=ops.toList.foldr (fun o m=>match o.dst with
 |some d=>min d m
 |none=>m) 1000000000
def hiOf(ops:Array Oper):Nat:=ops.toList.foldr (fun o m=>match o.dst with
 |some d=>max d m
 |none=>m) 0
def packF(ops:Array Oper)(τ τ':Fr):Fr:=fun i=>Bool.casesOn (motive:=fun _=>AV) (Nat.ble (loOf ops) i) (τ i) (Bool.casesOn (motive:=fun _=>AV) (Nat.ble i (hiOf ops)) (τ i) (τ' i))
def regionP(E:Env)(f:FuncId)(call:CallF)(N:Nat)(ops:Array Oper)(draw:Bool)(τ:Fr)(h:H):R (Fr×H):=
 (regionA E f call N ops draw τ h).bind fun p=> .ok (packF ops τ p.1,p.2)
def iter(g:Fr→H→R (X×Fr×H)):Nat→Fr→H→R (X×Fr×H)
 |0,_,_=> .no "rounds"
 |n+1,τ,h=>match g τ h with
  | .ok (.normal,τ,h)=>iter g n τ h
  |r=>r
def setPs(τ:Fr):List Nat→List AV→Fr
 |p::ps,v::vs=>setPs (upd τ p v) ps vs
 |_,_=>τ
def rounds(ga gb:Fr→H→R (X×Fr×H))(τ:Fr)(ps:List Nat)(b:Nat)(s:AV):List (Nat×AV)→H→R H
 | [],h=> .ok h
 |(i,x)::rest,h=>if sameBlk h[b]? (some (.var [s]))=true then
   match ga (setPs τ ps [.int .i64 i,x]) h with
   | .ok (.normal,τ1,h1)=>match gb τ1 h1 with
     | .ok (.normal,_,h2)=>rounds ga gb τ ps b s rest h2
     | .ok _=> .no "rounds: exit"
     | .no s=> .no s
   | .ok _=> .no "rounds: assign"
   | .no s=> .no s
  else .no "rounds: slice"
def noRF:Code→Bool
 | .rangeFunc .. =>false
 | .seq a b| .cond _ a b=>noRF a&&noRF b
 | .block _ b| .loop b=>noRF b
 |_=>true
def backL(l:List AV):List (Nat×AV):=((List.range l.length).zip l).reverse
def exec(E:Env)(f:FuncId)(call:CallF)(N:Nat):Code→Fr→H→R (X×Fr×H)
 | .skip,τ,h=> .ok (.normal,τ,h)
 | .label _,τ,h=> .ok (.normal,τ,h)
 | .region _ ops draw,τ,h=>(regionP E f call N ops draw τ h).bind fun(τ,h)=> .ok (.normal,τ,h)
 | .seq a b,τ,h=>match exec E f call N a τ h with
   | .ok (.normal,τ,h)=>exec E f call N b τ h
   |r=>r
 | .cond c a b,τ,h=>match ev E τ c with
   | .ok (.bool true)=>exec E f call N a τ h
   | .ok (.bool false)=>exec E f call N b τ h
   |_=> .no "cond"
 | .block id b,τ,h=>match exec E f call N b τ h with
   | .ok (.exit i,τ,h)=> .ok (if i=id then .normal else .exit i,τ,h)
   |r=>r
 | .loop b,τ,h=>iter (exec E f call N b) E.M τ h
 | .exit i,τ,h=> .ok (.exit i,τ,h)
 | .ret,τ,h=> .ok (.ret,τ,h)
 | .rangeFunc g ps assign body,τ,h=>match ev E τ g with
   | .ok (.clo gf [] [.ptr b 0])=>if E.B gf=true then
     match h[b]? with
     |some (.var [.nils])=> .ok (.normal,τ,h)
     |some (.var [.lst sz l tl])=>if sz=1∧l.length≤1000000∧ps.size=2∧(ps.toList.all fun p=>decide (p<N))=true∧(l.all AV.leaf)=true∧noRF assign=true∧noRF body=true then
       match rounds (exec E f call N assign) (exec E f call N body) τ ps.toList b (.lst sz l tl) (backL l) h with
       | .ok h'=> .ok (.normal,τ,h')
       | .no s=> .no s
      else .no "range: size"
     |_=> .no "range: slice"
     else .no "range: function"
   |_=> .no "range: value"
 |_,_,_=> .no "code"
def resA(E:Env)(τ:Fr)(h:H):List ResultVar→R (List AV)
 | []=> .ok []
 | .tmp t::rs=>(ev E τ (.tmp t)).bind fun v=>(resA E τ h rs).bind fun vs=> .ok (v::vs)
 | .cell a t::rs=>(loadA E.P h t (τ a)).bind fun v=>(resA E τ h rs).bind fun vs=> .ok (v::vs)
def initFr(args:List AV):Fr:=fun i=>args.getD i undef
def acall(E:Env):Nat→CallF
 |0,_,_,_=> .no "deep"
 |n+1,f,args,h=>match E.P.funcs[f]? with
  |some fn=>match fn.body with
   |some c=>if fn.name== "runtime.NumGoroutine" then .no "name" else
    match exec E f (acall E n) (max fn.ntmps args.length) c (initFr args) h with
    | .ok (.exit _,_,_)=> .no "exit"
    | .ok (_,τ,h)=>(resA E τ h fn.results.toList).bind fun vs=> .ok (match vs with| [v]=>v|vs=> .tup vs,h)
    | .no s=> .no s
   |none=> .no ("body " ++fn.name)
  |none=> .no "func"
end Go.Proofs.YthnajefdiljneaaDoor.AM
namespace Go.Proofs.YthnajefdiljneaaDoor.AM
set_option linter.unusedSimpArgs false
set_option linter.unusedSectionVars false
set_option linter.unusedVariables false
abbrev Rho:=Nat→Option (Nat×Nat)
abbrev Area:=Nat→Nat→Prop
inductive CR (F:Area) (ρ:Rho) (w:World):Value→AV→Prop
 |bool (b:Bool):CR F ρ w (.bool b) (.bool b)
 |int (k:IntKind) (n:Int):CR F ρ w (.int k n) (.int k n)
 |str (s:ByteArray):CR F ρ w (.string s) (.str s)
 |nilp:CR F ρ w (.pointer none) .nilp
 |ptr {b B off:Nat} (h:ρ b=some (B,0)):CR F ρ w (.pointer (some ⟨B,off,none⟩)) (.ptr b off)
 |eptr {b B i sz off o:Nat} (h:ρ b=some (B,0)) (ho:o=i*sz+off):CR F ρ w (.pointer (some ⟨B,o,none⟩)) (.eptr b i sz off)
 |fp {B base off o:Nat} {cs:Array Value} {e:TypeId} {fz:Nat×Nat} {l:List AV} (hb:w.heap[B]?=some (.cells cs e fz))
   (hF: ∀j,j<l.length→ ¬F B (base+j)) (vs:Nat→Value) (h1: ∀j y,l[j]?=some y→cs[base+j]?=some (vs j))
   (h2: ∀j y,l[j]?=some y→CR F ρ w (vs j) y) (ho:o=base+off):CR F ρ w (.pointer (some ⟨B,o,none⟩)) (.fp l off)
 |nils:CR F ρ w (.slice none 0 0) .nils
 |lst0 {base:Option Addr} {sz:Nat} {tl:Tl} (ht: ∀t,tl≠ .own t):CR F ρ w (.slice base 0 0) (.lst sz [] tl)
 |sl {b B o off len sz c:Nat} {clip:Bool} {cs:Array Value} {e:TypeId} {fz:Nat×Nat} (h:ρ b=some (B,0)) (hb:w.heap[B]?=some (.cells cs e fz))
   (hr:(off+c)*sz≤cs.size) (hl:len≤c) (hc:clip=true→c=len) (ho:c=0∨o=off*sz):CR F ρ w (.slice (some ⟨B,o,none⟩) len c) (.sl b off len sz clip)
 |vsl {b B o off len c:Nat} {clip:Bool} (h:ρ b=some (B,0)) (hl:len≤c) (hc:clip=true→c=len) (ho:c=0∨o=off):CR F ρ w (.slice (some ⟨B,o,none⟩) len c) (.vsl b off len clip)
 |lst {B o n c sz:Nat} {cs:Array Value} {e:TypeId} {fz:Nat×Nat} {l:List AV} {tl:Tl} (hb:w.heap[B]?=some (.cells cs e fz)) (hn:n=l.length)
   (hsz: ∀x,x∈l→x.cells.length=sz) (hF: ∀j,j<l.length*sz→ ¬F B (o+j)) (vs:Nat→Nat→Value)
   (h1: ∀i x j y,l[i]?=some x→x.cells[j]?=some y→cs[o+(i*sz+j)]?=some (vs i j))
   (h2: ∀i x j y,l[i]?=some x→x.cells[j]?=some y→CR F ρ w (vs i j) y)
   (hl:l.length≤c) (hr:o+c*sz≤cs.size) (hc:tl= .clip→c=l.length) (ht: ∀t,tl= .own t→l.length<c→ρ t=some (B,o+l.length*sz)):
   CR F ρ w (.slice (some ⟨B,o,none⟩) n c) (.lst sz l tl)
 |nilm:CR F ρ w (.map none) .nilm
 |map {b B:Nat} (h:ρ b=some (B,0)):CR F ρ w (.map (some B)) (.map b)
 |nilf:CR F ρ w .nilFunc .nilf
 |clo {f:Nat} {first caps:Array Value} {fa ca:List AV} (hf:first.size=fa.length) (hc:caps.size=ca.length)
   (vs us:Nat→Value) (h1: ∀j y,fa[j]?=some y→first[j]?=some (vs j)) (h2: ∀j y,fa[j]?=some y→CR F ρ w (vs j) y)
   (h3: ∀j y,ca[j]?=some y→caps[j]?=some (us j)) (h4: ∀j y,ca[j]?=some y→CR F ρ w (us j) y):CR F ρ w (.func (.func f) first caps) (.clo f fa ca)
 |nili:CR F ρ w .nilIface .nili
 |agg {cs:Array Value} {l:List AV} (hn:cs.size=l.length) (vs:Nat→Value) (h1: ∀j y,l[j]?=some y→cs[j]?=some (vs j))
   (h2: ∀j y,l[j]?=some y→CR F ρ w (vs j) y):CR F ρ w (.agg cs) (.agg l)
 |tup {cs:Array Value} {l:List AV} (hn:cs.size=l.length) (vs:Nat→Value) (h1: ∀j y,l[j]?=some y→cs[j]?=some (vs j))
   (h2: ∀j y,l[j]?=some y→CR F ρ w (vs j) y):CR F ρ w (.tuple cs) (.tup l)
def Keeps(F:Area)(w:World)(F':Area)(w':World):Prop:=
 ∀B cs e fz,w.heap[B]?=some (.cells cs e fz)→ ∃cs' fz',w'.heap[B]?=some (.cells cs' e fz')∧cs'.size=cs.size∧ ∀off,off<cs.size→ ¬F B off→cs'[off]?=cs[off]?∧ ¬F' B off
theorem lt_of_get{α:Type}{a:Array α}{i:Nat}{x:α}(h:a[i]?=some x):i<a.size:=by
 rcases Nat.lt_or_ge i a.size with h'|h'
 ·exact h'
 ·simp[Array.getElem?_eq_none h']at h
theorem lt_of_getl{α:Type}{a:List α}{i:Nat}{x:α}(h:a[i]?=some x):i<a.length:=by
 rcases Nat.lt_or_ge i a.length with h'|h'
 ·exact h'
 ·simp[List.getElem?_eq_none h']at h
theorem CR.mono{F F':Area}{ρ ρ':Rho}{w w':World}(hρ: ∀b p,ρ b=some p→ρ' b=some p)(hw:Keeps F w F' w'){v:Value}{y:AV}(h:CR F ρ w v y):CR F' ρ' w' v y:=by
 induction h with
 |bool b=>exact .bool b
 |int k n=>exact .int k n
 |str s=>exact .str s
 |nilp=>exact .nilp
 |ptr h=>exact .ptr (hρ _ _ h)
 |eptr h ho=>exact .eptr (hρ _ _ h) ho
 | @fp B base off o cs e fz l hb hF vs h1 h2 ho ih=>
   obtain⟨cs',fz',hb',hs',hk⟩:=hw B cs e fz hb
   have key: ∀j,j<l.length→base+j<cs.size:=fun j hj=>lt_of_get (h1 j _ (List.getElem?_eq_getElem hj))
   refine .fp hb' (fun j hj=>(hk _ (key j hj) (hF j hj)).2) vs (fun j y hy=>?_) (fun j y hy=>ih j y hy) ho
   have hj:=lt_of_getl hy
   rw[(hk _ (key j hj) (hF j hj)).1];exact h1 j y hy
 |nils=>exact .nils
 |lst0 ht=>exact .lst0 ht
 |sl h hb hr hl hc ho=>obtain⟨cs',fz',hb',hs',_⟩:=hw _ _ _ _ hb;exact .sl (hρ _ _ h) hb' (by omega) hl hc ho
 |vsl h hl hc ho=>exact .vsl (hρ _ _ h) hl hc ho
 | @lst B o n c sz cs e fz l tl hb hn hsz hF vs h1 h2 hl hr hc ht ih=>
   obtain⟨cs',fz',hb',hs',hk⟩:=hw B cs e fz hb
   have key: ∀j,j<l.length*sz→o+j<cs.size:=fun j hj=>by have:=Nat.mul_le_mul_right sz hl;omega
   refine .lst hb' hn hsz (fun j hj=>(hk _ (key j hj) (hF j hj)).2) vs (fun i x j y hx hy=>?_) (fun i x j y hx hy=>ih i x j y hx hy) hl (by omega) hc (fun t h1 h2=>hρ _ _ (ht t h1 h2))
   have hi:=lt_of_getl hx
   have hj:=lt_of_getl hy
   rw[hsz x (List.mem_of_getElem? hx)]at hj
   have hlt:i*sz+j<l.length*sz:=by
    have:(i+1)*sz≤l.length*sz:=Nat.mul_le_mul_right sz hi;rw[Nat.add_mul]at this;omega
   rw[(hk _ (key _ hlt) (hF _ hlt)).1];exact h1 i x j y hx hy
 |nilm=>exact .nilm
 |map h=>exact .map (hρ _ _ h)
 |nilf=>exact .nilf
 |clo hf hc vs us h1 h2 h3 h4 ih1 ih2=>exact .clo hf hc vs us h1 ih1 h3 ih2
 |nili=>exact .nili
 |agg hn vs h1 h2 ih=>exact .agg hn vs h1 ih
 |tup hn vs h1 h2 ih=>exact .tup hn vs h1 ih
def CRs(F:Area)(ρ:Rho)(w:World)(vs:List Value)(l:List AV):Prop:=
 vs.length=l.length∧ ∀(j:Nat) (v:Value) (y:AV),vs[j]?=some v→l[j]?=some y→CR F ρ w v y
theorem CRs.nil{F:Area}{ρ:Rho}{w:World}:CRs F ρ w [] []:=⟨rfl,fun j v y h=>by simp at h⟩
theorem CRs.cons{F:Area}{ρ:Rho}{w:World}{v:Value}{vs:List Value}{y:AV}{l:List AV}(h:CR F ρ w v y)(hs:CRs F ρ w vs l):CRs F ρ w (v::vs) (y::l):=by
 refine⟨by simp[hs.1],fun j u z hu hz=>?_⟩
 cases j with
 |zero=>simp at hu hz;subst hu;subst hz;exact h
 |succ j=>simp at hu hz;exact hs.2 j u z hu hz
theorem CRs.head{F:Area}{ρ:Rho}{w:World}{v:Value}{vs:List Value}{y:AV}{l:List AV}(h:CRs F ρ w (v::vs) (y::l)):CR F ρ w v y:=h.2 0 v y rfl rfl
theorem CRs.tail{F:Area}{ρ:Rho}{w:World}{v:Value}{vs:List Value}{y:AV}{l:List AV}(h:CRs F ρ w (v::vs) (y::l)):CRs F ρ w vs l:=
 ⟨by simpa using h.1,fun j u z hu hz=>h.2 (j+1) u z (by simpa using hu) (by simpa using hz)⟩
theorem CRs.append{F:Area}{ρ:Rho}{w:World}{vs us:List Value}{l m:List AV}(h:CRs F ρ w vs l)(h':CRs F ρ w us m):CRs F ρ w (vs++us) (l++m):=by
 induction l generalizing vs with
 |nil=>obtain rfl:vs= []:=by simpa using h.1
       exact h'
 |cons y l ih=>
  cases vs with
  |nil=>have:=h.1;simp at this
  |cons v vs=>exact .cons h.head (ih h.tail)
theorem CRs.mono{F F':Area}{ρ ρ':Rho}{w w':World}(hρ: ∀b p,ρ b=some p→ρ' b=some p)(hw:Keeps F w F' w'){vs:List Value}{l:List AV}(h:CRs F ρ w vs l):CRs F' ρ' w' vs l:=
 ⟨h.1,fun j v y hv hy=>(h.2 j v y hv hy).mono hρ hw⟩
theorem CRs.get{F:Area}{ρ:Rho}{w:World}{vs:List Value}{l:List AV}(h:CRs F ρ w vs l){j:Nat}{y:AV}(hy:l[j]?=some y): ∃v,vs[j]?=some v∧CR F ρ w v y:=by
 have hj:=lt_of_getl hy
 have:j<vs.length:=by rw[h.1];exact hj
 exact⟨vs[j],List.getElem?_eq_getElem this,h.2 j _ y (List.getElem?_eq_getElem this) hy⟩
theorem CRs.drop{F:Area}{ρ:Rho}{w:World}{vs:List Value}{l:List AV}(h:CRs F ρ w vs l)(n:Nat):CRs F ρ w (vs.drop n) (l.drop n):=
 ⟨by simp[h.1],fun j v y hv hy=>by simp only[List.getElem?_drop]at hv hy;exact h.2 _ v y hv hy⟩
theorem CRs.take{F:Area}{ρ:Rho}{w:World}{vs:List Value}{l:List AV}(h:CRs F ρ w vs l)(n:Nat):CRs F ρ w (vs.take n) (l.take n):=by
 refine⟨by simp[h.1],fun j v y hv hy=>?_⟩;rw[List.getElem?_take]at hv hy;split at hv
 ·rename_i hlt;rw[if_pos hlt]at hy;exact h.2 _ v y hv hy
 ·cases hv
theorem CRs.set{F:Area}{ρ:Rho}{w:World}{vs:List Value}{l:List AV}(h:CRs F ρ w vs l){v:Value}{y:AV}(hv:CR F ρ w v y)(n:Nat):CRs F ρ w (vs.set n v) (l.set n y):=by
 refine⟨by simp[h.1],fun j u z hu hz=>?_⟩;rw[List.getElem?_set]at hu hz
 by_cases hn:n=j
 ·subst hn
  by_cases hlt:n<l.length
  ·have hlt':n<vs.length:=by rw[h.1];exact hlt
   simp[hlt']at hu;simp[hlt]at hz;subst hu;subst hz;exact hv
  ·simp[hlt]at hz
 ·simp[hn]at hu hz;exact h.2 j u z hu hz
theorem CR.agg_of{F:Area}{ρ:Rho}{w:World}{cs:Array Value}{l:List AV}(h:CRs F ρ w cs.toList l):CR F ρ w (.agg cs) (.agg l):=by
 have hget: ∀j y,l[j]?=some y→cs[j]?=some (cs.getD j Go.undef):=fun j y hy=>by
  obtain⟨v,hv,_⟩:=h.get hy;rw[Array.getElem?_toList]at hv;simp[Array.getD_eq_getD_getElem?,hv]
 refine .agg (by simpa using h.1) (fun j=>cs.getD j Go.undef) hget (fun j y hy=>?_);have:=hget j y hy;exact h.2 j _ y (by rw[Array.getElem?_toList];exact this) hy
theorem CR.agg_inv{F:Area}{ρ:Rho}{w:World}{v:Value}{l:List AV}(h:CR F ρ w v (.agg l)): ∃cs,v= .agg cs∧CRs F ρ w cs.toList l:=by
 cases h with
 |agg hn vs h1 h2=>
  refine⟨_,rfl,by simpa using hn,fun j v y hv hy=>?_⟩;rw[Array.getElem?_toList,h1 j y hy]at hv;cases hv;exact h2 j y hy
theorem CR.tup_of{F:Area}{ρ:Rho}{w:World}{cs:Array Value}{l:List AV}(h:CRs F ρ w cs.toList l):CR F ρ w (.tuple cs) (.tup l):=by
 have hget: ∀j y,l[j]?=some y→cs[j]?=some (cs.getD j Go.undef):=fun j y hy=>by
  obtain⟨v,hv,_⟩:=h.get hy;rw[Array.getElem?_toList]at hv;simp[Array.getD_eq_getD_getElem?,hv]
 refine .tup (by simpa using h.1) (fun j=>cs.getD j Go.undef) hget (fun j y hy=>?_);have:=hget j y hy;exact h.2 j _ y (by rw[Array.getElem?_toList];exact this) hy
theorem CR.tup_inv{F:Area}{ρ:Rho}{w:World}{v:Value}{l:List AV}(h:CR F ρ w v (.tup l)): ∃cs,v= .tuple cs∧CRs F ρ w cs.toList l:=by
 cases h with
 |tup hn vs h1 h2=>
  refine⟨_,rfl,by simpa using hn,fun j v y hv hy=>?_⟩;rw[Array.getElem?_toList,h1 j y hy]at hv;cases hv;exact h2 j y hy
theorem CR.cells{F:Area}{ρ:Rho}{w:World}{v:Value}{y:AV}(h:CR F ρ w v y):CRs F ρ w v.cells.toList y.cells:=by
 cases h with
 |agg hn vs h1 h2=>
  refine⟨by simpa [Value.cells,AV.cells]using hn,fun j v y hv hy=>?_⟩;simp only[Value.cells,AV.cells]at hv hy;rw[Array.getElem?_toList,h1 j y hy]at hv;cases hv;exact h2 j y hy
 |_=>exact .cons (by constructor<;>assumption) .nil
def flat(l:List AV):List AV:=l.flatMap AV.cells
theorem flat_length{l:List AV}{sz:Nat}(h: ∀x,x∈l→x.cells.length=sz):(flat l).length=l.length*sz:=by
 induction l with
 |nil=>simp [flat]
 |cons x l ih=>
  have:=ih (fun y hy=>h y (List.mem_cons_of_mem _ hy))
  simp only[flat,List.flatMap_cons,List.length_append,List.length_cons]at this ⊢
  rw[this,h x (List.mem_cons_self ..),Nat.add_mul];omega
theorem flat_append(l m:List AV):flat (l++m)=flat l++flat m:=by simp[flat]
theorem flat_drop{l:List AV}{sz:Nat}(h: ∀x,x∈l→x.cells.length=sz)(n:Nat):(flat l).drop (n*sz)=flat (l.drop n):=by
 induction n generalizing l with
 |zero=>simp
 |succ n ih=>
  cases l with
  |nil=>simp [flat]
  |cons x l=>
   have hx:=h x (List.mem_cons_self ..)
   have:=ih (l:=l) (fun y hy=>h y (List.mem_cons_of_mem _ hy));simp only[List.drop_succ_cons];rw[←this,Nat.add_mul,Nat.one_mul];show(x.cells++flat l).drop (n*sz+sz)=_;rw[List.drop_append,List.drop_eq_nil_of_le (by omega),hx];simp
theorem flat_take{l:List AV}{sz:Nat}(h: ∀x,x∈l→x.cells.length=sz)(n:Nat):(flat l).take (n*sz)=flat (l.take n):=by
 induction n generalizing l with
 |zero=>simp [flat]
 |succ n ih=>
  cases l with
  |nil=>simp [flat]
  |cons x l=>
   have hx:=h x (List.mem_cons_self ..)
   have:=ih (l:=l) (fun y hy=>h y (List.mem_cons_of_mem _ hy));simp only[List.take_succ_cons];show(x.cells++flat l).take ((n+1)*sz)=x.cells++flat (l.take n);rw[←this,Nat.add_mul,Nat.one_mul,List.take_append,List.take_of_length_le (by omega),hx];simp
theorem flat_get{l:List AV}{sz:Nat}(h: ∀x,x∈l→x.cells.length=sz){i j:Nat}{x:AV}(hx:l[i]?=some x)(hj:j<sz):(flat l)[i*sz+j]?=x.cells[j]?:=by
 have hd:=flat_drop h i
 have:((flat l).drop (i*sz))[j]?=(flat l)[i*sz+j]?:=by rw[List.getElem?_drop]
 rw[←this,hd]
 have hl:=lt_of_getl hx
 have hx':l[i]=x:=by rw[List.getElem?_eq_getElem hl]at hx;exact Option.some.inj hx
 rw[List.drop_eq_getElem_cons hl,hx'];show(x.cells++flat _)[j]?=_;rw[List.getElem?_append_left (by rw[h x (List.mem_of_getElem? (by rw[List.getElem?_eq_getElem hl,hx']))];exact hj)]
def Elems(F:Area)(ρ:Rho)(w:World)(cs:Array Value)(o sz:Nat)(l:List AV):Prop:=
 (∀x,x∈l→x.cells.length=sz)∧CRs F ρ w ((cs.toList.drop o).take (l.length*sz)) (flat l)
theorem Elems.mono{F F':Area}{ρ ρ':Rho}{w w':World}{cs:Array Value}{o sz:Nat}{l:List AV}(hρ: ∀b p,ρ b=some p→ρ' b=some p)(hw:Keeps F w F' w')(h:Elems F ρ w cs o sz l):Elems F' ρ' w' cs o sz l:=
 ⟨h.1,h.2.mono hρ hw⟩
theorem CR.lst_of{F:Area}{ρ:Rho}{w:World}{B o c sz:Nat}{cs:Array Value}{e:TypeId}{fz:Nat×Nat}{l:List AV}{tl:Tl}(hb:w.heap[B]?=some (.cells cs e fz))
  (hF: ∀j,j<l.length*sz→ ¬F B (o+j)) (he:Elems F ρ w cs o sz l) (hl:l.length≤c) (hr:o+c*sz≤cs.size) (hc:tl= .clip→c=l.length)
  (ht: ∀t,tl= .own t→l.length<c→ρ t=some (B,o+l.length*sz)):CR F ρ w (.slice (some ⟨B,o,none⟩) l.length c) (.lst sz l tl):=by
 have key: ∀(i:Nat) (x:AV) (j:Nat) (y:AV),l[i]?=some x→x.cells[j]?=some y→ ∃v,cs[o+(i*sz+j)]?=some v∧CR F ρ w v y:=by
  intro i x j y hx hy
  have hj:=lt_of_getl hy
  rw[he.1 x (List.mem_of_getElem? hx)]at hj
  have hf:=flat_get he.1 hx hj
  rw[hy]at hf;obtain⟨v,hv,hc⟩:=he.2.get hf;refine⟨v,?_,hc⟩;rw[List.getElem?_take]at hv;split at hv
  ·rw[List.getElem?_drop,Array.getElem?_toList]at hv;exact hv
  ·cases hv
 refine .lst hb rfl he.1 hF (fun i j=>cs.getD (o+(i*sz+j)) Go.undef) (fun i x j y hx hy=>?_) (fun i x j y hx hy=>?_) hl hr hc ht
 ·obtain⟨v,hv,_⟩:=key i x j y hx hy;simp[Array.getD_eq_getD_getElem?,hv]
 ·obtain⟨v,hv,h⟩:=key i x j y hx hy;simpa [Array.getD_eq_getD_getElem?,hv]using h
theorem flat_split{l:List AV}{sz:Nat}(h: ∀x,x∈l→x.cells.length=sz){q:Nat}{y:AV}(hy:(flat l)[q]?=some y):
  ∃i j x,q=i*sz+j∧l[i]?=some x∧x.cells[j]?=some y:=by
 have hq:=lt_of_getl hy
 rw[flat_length h]at hq
 have hs:0<sz:=by rcases Nat.eq_zero_or_pos sz with rfl|h'; · simp at hq
                  ·exact h'
 have hi:q / sz<l.length:=by rw[Nat.div_lt_iff_lt_mul hs];exact hq
 have hqe:q=q / sz*sz+q%sz:=by rw[Nat.mul_comm];exact(Nat.div_add_mod q sz).symm
 refine⟨q / sz,q%sz,l[q / sz],hqe,List.getElem?_eq_getElem hi,?_⟩;rw[←flat_get h (List.getElem?_eq_getElem hi) (Nat.mod_lt _ hs),←hqe];exact hy
theorem CR.lst_parts{F:Area}{ρ:Rho}{w:World}{B o n c sz:Nat}{cs:Array Value}{e:TypeId}{fz:Nat×Nat}{l:List AV}{tl:Tl}(hb:w.heap[B]?=some (.cells cs e fz))(hn:n=l.length)
  (hsz: ∀x,x∈l→x.cells.length=sz) (hF: ∀j,j<l.length*sz→ ¬F B (o+j)) (vs:Nat→Nat→Value)
  (h1: ∀i x j y,l[i]?=some x→x.cells[j]?=some y→cs[o+(i*sz+j)]?=some (vs i j))
  (h2: ∀i x j y,l[i]?=some x→x.cells[j]?=some y→CR F ρ w (vs i j) y)
  (hl:l.length≤c) (hr:o+c*sz≤cs.size) (hc:tl= .clip→c=l.length) (ht: ∀t,tl= .own t→l.length<c→ρ t=some (B,o+l.length*sz)):
  ∃B' o' c' cs' e' fz',Value.slice (some ⟨B,o,none⟩) n c= .slice (some ⟨B',o',none⟩) l.length c'∧w.heap[B']?=some (.cells cs' e' fz')∧(∀j,j<l.length*sz→ ¬F B' (o'+j))∧Elems F ρ w cs' o' sz l∧
   l.length≤c'∧o'+c'*sz≤cs'.size∧(tl= .clip→c'=l.length)∧(∀t,tl= .own t→l.length<c'→ρ t=some (B',o'+l.length*sz)):=by
 subst hn;refine⟨B,o,c,cs,e,fz,rfl,hb,hF,⟨hsz,?_,fun q v y hv hy=>?_⟩,hl,hr,hc,ht⟩
 ·rw[flat_length hsz]
  have:=Nat.mul_le_mul_right sz hl;simp;omega
 ·obtain⟨i,j,x,rfl,hx,hxy⟩:=flat_split hsz hy
  rw[List.getElem?_take]at hv;split at hv
  ·rw[List.getElem?_drop,Array.getElem?_toList,h1 i x j y hx hxy]at hv
   cases hv;exact h2 i x j y hx hxy
  ·cases hv
theorem CR.lst_inv{F:Area}{ρ:Rho}{w:World}{v:Value}{sz:Nat}{l:List AV}{tl:Tl}(h:CR F ρ w v (.lst sz l tl))(hv:(∀b,v≠ .slice b 0 0)∨ ∃t,tl= .own t):
  ∃B o c cs e fz,v= .slice (some ⟨B,o,none⟩) l.length c∧w.heap[B]?=some (.cells cs e fz)∧(∀j,j<l.length*sz→ ¬F B (o+j))∧Elems F ρ w cs o sz l∧
   l.length≤c∧o+c*sz≤cs.size∧(tl= .clip→c=l.length)∧(∀t,tl= .own t→l.length<c→ρ t=some (B,o+l.length*sz)):=by
 cases h with
 |lst0 ht=>
  rcases hv with hv|⟨t,rfl⟩
  ·exact absurd rfl (hv _)
  ·exact absurd rfl (ht t)
 |lst hb hn hsz hF vs h1 h2 hl hr hc ht=>exact CR.lst_parts hb hn hsz hF vs h1 h2 hl hr hc ht
def Blk.alive:Blk→Bool
 | .dead| .hole=>false
 |_=>true
abbrev View:=Nat→Option Blk
def Own(ρ:Rho)(g:View):Area:=fun B off=> ∃b k blk,ρ b=some (B,k)∧g b=some blk∧blk.alive=true∧k≤off
def Forb(A:Area)(ρ:Rho)(g:View):Area:=fun B off=>Own ρ g B off∨A B off
def Thawed(fz:Nat×Nat)(k n:Nat):Prop:= ∀off,k≤off→off<n→ ¬(fz.1≤off∧off<fz.2)
def BR(F:Area)(ρ:Rho)(w:World)(B k:Nat):Blk→Prop
 | .var l=>k=0∧ ∃cs e fz,w.heap[B]?=some (.cells cs e fz)∧Thawed fz 0 cs.size∧CRs F ρ w cs.toList l
 | .arr sz l=>k=0∧ ∃cs e fz,w.heap[B]?=some (.cells cs e fz)∧Thawed fz 0 cs.size∧l.length*sz≤cs.size∧Elems F ρ w cs 0 sz l
 | .map es=>k=0∧ ∃ents clock,w.heap[B]?=some (.map ents clock)∧ents.size=es.length∧ ∀(i:Nat) (e:MapEntry) (x:AV×AV),ents[i]?=some e→es[i]?=some x→CR F ρ w e.key x.1∧CR F ρ w e.val x.2
 | .tail=> ∃cs e fz,w.heap[B]?=some (.cells cs e fz)∧Thawed fz k cs.size
 | .dead| .hole=>True
theorem BR.mono{F F':Area}{ρ ρ':Rho}{w w':World}{B k:Nat}{blk:Blk}(hρ: ∀b p,ρ b=some p→ρ' b=some p)(hw:Keeps F w F' w')(hB:w'.heap[B]?=w.heap[B]?)(h:BR F ρ w B k blk):BR F' ρ' w' B k blk:=by
 cases blk with
 |var l=>obtain⟨h0,cs,e,fz,h1,h2,h3⟩:=h;exact⟨h0,cs,e,fz,by rw[hB];exact h1,h2,h3.mono hρ hw⟩
 |arr sz l=>obtain⟨h0,cs,e,fz,h1,h2,h3,h4⟩:=h;exact⟨h0,cs,e,fz,by rw[hB];exact h1,h2,h3,h4.mono hρ hw⟩
 |map es=>obtain⟨h0,ents,clock,h1,h2,h3⟩:=h;exact⟨h0,ents,clock,by rw[hB];exact h1,h2,fun i e x he hx=>⟨(h3 i e x he hx).1.mono hρ hw,(h3 i e x he hx).2.mono hρ hw⟩⟩
 |tail=>obtain⟨cs,e,fz,h1,h2⟩:=h;exact⟨cs,e,fz,by rw[hB];exact h1,h2⟩
 |dead=>trivial
 |hole=>trivial
structure HR (G:Nat→Option (List AV)) (A:Area) (ρ:Rho) (w:World) (g:View):Prop where
 dom: ∀b,g b=none→ρ b=none
 blk: ∀b blk,g b=some blk→blk≠ .hole→ ∃B k,ρ b=some (B,k)∧B<w.heap.size∧BR (Forb A ρ g) ρ w B k blk
 hole: ∀b,g b=some .hole→ ∀B k,ρ b=some (B,k)→A B k
 sep: ∀b b' B k k' x x',ρ b=some (B,k)→ρ b'=some (B,k')→g b=some x→g b'=some x'→x.alive=true→x'.alive=true→b=b'
 avo: ∀B off,A B off→B<w.heap.size∧ ¬Own ρ g B off
 glob: ∀i cs,G i=some cs→CR (Forb A ρ g) ρ w (.pointer (some ⟨i,0,none⟩)) (.fp cs 0)
def SameS(w w':World):Prop:=w'.os=w.os∧w'.tape=w.tape∧w'.output=w.output
theorem SameS.refl(w:World):SameS w w:=⟨rfl,rfl,rfl⟩
structure Ext (O:Area) (ρ:Rho) (w:World) (O':Area) (ρ':Rho) (w':World):Prop where
 sub: ∀b p,ρ b=some p→ρ' b=some p
 new: ∀B off,O' B off→O B off∨w.heap.size≤B
 newρ: ∀b B k,ρ' b=some (B,k)→ρ b=some (B,k)∨O B k∨w.heap.size≤B
 st:SameS w w'
 size:w.heap.size≤w'.heap.size
 keep: ∀B cs e fz,w.heap[B]?=some (.cells cs e fz)→ ∃cs' fz',w'.heap[B]?=some (.cells cs' e fz')∧cs'.size=cs.size∧ ∀off,off<cs.size→ ¬O B off→cs'[off]?=cs[off]?
 keepo: ∀B,B<w.heap.size→(∀off,¬O B off)→w'.heap[B]?=w.heap[B]?
theorem Ext.refl(O:Area)(ρ:Rho)(w:World):Ext O ρ w O ρ w:=
 ⟨fun _ _ h=>h,fun _ _ h=> .inl h,fun _ _ _ h=> .inl h,SameS.refl w,Nat.le_refl _,fun B cs e fz h=>⟨cs,fz,h,rfl,fun _ _ _=>rfl⟩,fun _ _ _=>rfl⟩
theorem Ext.trans{O O' O'':Area}{ρ ρ' ρ'':Rho}{w w' w'':World}(h:Ext O ρ w O' ρ' w')(h':Ext O' ρ' w' O'' ρ'' w''):Ext O ρ w O'' ρ'' w'':=by
 have hn: ∀B off,B<w.heap.size→ ¬O B off→ ¬O' B off:=fun B off hB ho h1=>by
  rcases h.new B off h1 with h2|h2
  ·exact ho h2
  ·omega
 refine⟨fun b p hb=>h'.sub b p (h.sub b p hb),fun B off ho=>?_,fun b B k hb=>?_,⟨h'.st.1.trans h.st.1,h'.st.2.1.trans h.st.2.1,h'.st.2.2.trans h.st.2.2⟩,Nat.le_trans h.size h'.size,fun B cs e fz hb=>?_,fun B hB ho=>?_⟩
 ·rcases h'.new B off ho with h1|h1
  ·exact h.new B off h1
  ·exact .inr (Nat.le_trans h.size h1)
 ·rcases h'.newρ b B k hb with h1|h1|h1
  ·exact h.newρ b B k h1
  ·rcases h.new B k h1 with h2|h2
   ·exact .inr (.inl h2)
   ·exact .inr (.inr h2)
  ·exact .inr (.inr (Nat.le_trans h.size h1))
 ·obtain⟨cs',fz',hb',hs',hk'⟩:=h.keep B cs e fz hb
  obtain⟨cs'',fz'',hb'',hs'',hk''⟩:=h'.keep B cs' e fz' hb'
  have hB:=lt_of_get hb
  exact⟨cs'',fz'',hb'',by omega,fun off hoff ho=>(hk'' off (by omega) (hn B off hB ho)).trans (hk' off hoff ho)⟩
 ·rw[h'.keepo B (by have:=h.size;omega) (fun off=>hn B off hB (ho off)),h.keepo B hB ho]
theorem Ext.keeps{O O' A:Area}{ρ ρ':Rho}{w w':World}(h:Ext O ρ w O' ρ' w'):Keeps (fun B off=>O B off∨A B off) w (fun B off=>O' B off∨A B off) w':=by
 intro B cs e fz hb;obtain⟨cs',fz',hb',hs',hk'⟩:=h.keep B cs e fz hb;refine⟨cs',fz',hb',hs',fun off hoff hF=>⟨hk' off hoff (fun ho=>hF (.inl ho)),?_⟩⟩;rintro(ho|ha)
 ·rcases h.new B off ho with h1|h1
  ·exact hF (.inl h1)
  ·have:=lt_of_get hb;omega
 ·exact hF (.inr ha)
theorem CR.ext{A:Area}{ρ ρ':Rho}{g g':View}{w w':World}(h:Ext (Own ρ g) ρ w (Own ρ' g') ρ' w'){v:Value}{y:AV}(hc:CR (Forb A ρ g) ρ w v y):CR (Forb A ρ' g') ρ' w' v y:=
 hc.mono h.sub h.keeps
theorem CRs.ext{A:Area}{ρ ρ':Rho}{g g':View}{w w':World}(h:Ext (Own ρ g) ρ w (Own ρ' g') ρ' w'){v:List Value}{y:List AV}(hc:CRs (Forb A ρ g) ρ w v y):CRs (Forb A ρ' g') ρ' w' v y:=
 hc.mono h.sub h.keeps
theorem HR.upd{G:Nat→Option (List AV)}{A:Area}{ρ ρ':Rho}{w w':World}{g g':View}(B0:Nat)(h:HR G A ρ w g)(hst:SameS w w')
  (h1: ∀b p,ρ b=some p→ρ' b=some p) (h2: ∀B,B<w.heap.size→B≠B0→w'.heap[B]?=w.heap[B]?)
  (h3: ∀cs e fz,w.heap[B0]?=some (.cells cs e fz)→ ∃cs' fz',w'.heap[B0]?=some (.cells cs' e fz')∧cs'.size=cs.size∧ ∀off,off<cs.size→ ¬Own ρ g B0 off→cs'[off]?=cs[off]?)
  (h3':B0<w.heap.size→(∃off,Own ρ g B0 off)∨w'.heap[B0]?=w.heap[B0]?)
  (h4:w.heap.size≤w'.heap.size) (h8: ∀B off,Own ρ' g' B off→Own ρ g B off∨w.heap.size≤B) (h9: ∀b B k,ρ' b=some (B,k)→ρ b=some (B,k)∨Own ρ g B k∨w.heap.size≤B):
  Ext (Own ρ g) ρ w (Own ρ' g') ρ' w'∧
  ((∀b,g' b=none→ρ' b=none)→
   (∀b blk,g' b=some blk→(g b=some blk∧(blk.alive=true→ ∀B k,ρ b=some (B,k)→B≠B0))∨(∃B k,ρ' b=some (B,k)∧B<w'.heap.size∧BR (Forb A ρ' g') ρ' w' B k blk))→
   (∀b b' B k k' x x',ρ' b=some (B,k)→ρ' b'=some (B,k')→g' b=some x→g' b'=some x'→x.alive=true→x'.alive=true→b=b')→
   (∀b,g' b=some .hole→g b=some .hole∧ρ' b=ρ b)→HR G A ρ' w' g'):=by
 have hext:Ext (Own ρ g) ρ w (Own ρ' g') ρ' w':=by
  refine⟨h1,h8,h9,hst,h4,fun B cs e fz hb=>?_,fun B hB ho=>?_⟩
  ·by_cases hB:B=B0
   ·subst hB;exact h3 cs e fz hb
   ·exact⟨cs,fz,by rw[h2 B (lt_of_get hb) hB];exact hb,rfl,fun _ _ _=>rfl⟩
  ·by_cases hB0:B=B0
   ·subst hB0
    rcases h3' hB with⟨off,h⟩|h
    ·exact absurd h (ho off)
    ·exact h
   ·exact h2 B hB hB0
 refine⟨hext,fun h6 h5 h7 h10=>⟨h6,fun b blk hb hnh=>?_,fun b hb B k hk=>h.hole b (h10 b hb).1 B k (by rw[←(h10 b hb).2];exact hk),h7,fun B off ha=>?_,fun i cs hi=>(h.glob i cs hi).ext hext⟩⟩
 ·rcases h5 b blk hb with⟨h0,hne⟩|h0
  ·obtain⟨B,k,hr,hlt,hbr⟩:=h.blk b blk h0 hnh
   refine⟨B,k,h1 _ _ hr,by omega,?_⟩
   by_cases ha:blk.alive=true
   ·exact hbr.mono h1 hext.keeps (h2 B hlt (hne ha B k hr))
   ·cases blk<;>simp [Blk.alive]at ha
    ·trivial
    ·trivial
  ·exact h0
 ·have:=h.avo B off ha
  exact⟨by omega,fun ho=>by rcases h8 B off ho with h'|h'; · exact this.2 h'
                            ·omega⟩
end Go.Proofs.YthnajefdiljneaaDoor.AM
namespace Go.Proofs.YthnajefdiljneaaDoor.AM
set_option linter.unusedSectionVars false
set_option linter.unusedVariables false
set_option linter.unusedSimpArgs false
theorem R.bind_ok{α β:Type}{x:R α}{f:α→R β}{b:β}(h:x.bind f= .ok b): ∃a,x= .ok a∧f a= .ok b:=by
 cases x with
 |ok a=>exact⟨a,rfl,h⟩
 |no s=>cases h
theorem lift_ok{α:Type}{s:String}{o:Option α}{a:α}(h:lift s o= .ok a):o=some a:=by
 cases o with
 |none=>cases h
 |some b=>simp [lift]at h;rw[h]
theorem pureRun_run{α:Type}{P:Program}{s:Sem α}{a:α}(h:pureRun P s=some a)(w:World):s.run P w= .ok a w:=by
 induction s with
 |pure b=>simp [pureRun]at h;subst h;rfl
 |program k ih=>exact ih P h
 |_=>simp [pureRun]at h
section
variable {F:Area} {ρ:Rho} {w:World}
theorem leafOf_cr{v:Value}{y:AV}(h:leafOf v=some y):CR F ρ w v y:=by
 unfold leafOf at h
 split at h<;>cases h<;>constructor
theorem leavesOf_cr: ∀{vs:List Value} {ys:List AV},leavesOf vs=some ys→CRs F ρ w vs ys
 | [],ys,h=>by cases h;exact .nil
 |v::vs,ys,h=>by
  simp only[leavesOf]at h
  cases hv:leafOf v with
  |none=>simp [hv]at h
  |some x=>
   cases hs:leavesOf vs with
   |none=>simp [hv,hs]at h
   |some xs=>simp [hv,hs]at h;subst h;exact .cons (leafOf_cr hv) (leavesOf_cr hs)
theorem ofV_cr{v:Value}{y:AV}(h:ofV v=some y):CR F ρ w v y:=by
 unfold ofV at h;split at h
 ·rename_i cs
  cases hs:leavesOf cs.toList with
  |none=>simp [hs]at h
  |some xs=>simp [hs]at h;subst h;exact .agg_of (leavesOf_cr hs)
 ·rename_i cs
  cases hs:leavesOf cs.toList with
  |none=>simp [hs]at h
  |some xs=>simp [hs]at h;subst h;exact .tup_of (leavesOf_cr hs)
 ·exact leafOf_cr h
theorem toV_eq{v x:Value}{y:AV}(h:y.toV=some x)(hc:CR F ρ w v y):v=x:=by
 cases hc<;>simp [AV.toV]at h<;>exact h
theorem toVs_eq: ∀{vs xs:List Value} {ys:List AV},toVs ys=some xs→CRs F ρ w vs ys→vs=xs
 |vs,xs,[],h,hc=>by cases h;exact List.eq_nil_of_length_eq_zero hc.1
 |vs,xs,y::ys,h,hc=>by
  cases vs with
  |nil=>have:=hc.1;simp at this
  |cons v vs=>
   simp only[toVs]at h
   cases hv:y.toV with
   |none=>simp [hv]at h
   |some x=>
    cases hs:toVs ys with
    |none=>simp [hv,hs]at h
    |some us=>simp [hv,hs]at h;subst h;rw[toV_eq hv hc.head,toVs_eq hs hc.tail]
theorem intA_eq{v:Value}{y:AV}{n:Int}(h:intA y= .ok n)(hc:CR F ρ w v y): ∃k,v= .int k n:=by
 cases hc<;>simp [intA]at h
 subst h;exact⟨_,rfl⟩
def TR(F:Area)(ρ:Rho)(w:World)(v:Value)(y:AV):Prop:=(∃sz l,y= .fsl sz l)∨CR F ρ w v y
theorem TR.mono{F F':Area}{ρ ρ':Rho}{w w':World}(hρ: ∀b p,ρ b=some p→ρ' b=some p)(hw:Keeps F w F' w'){v:Value}{y:AV}(h:TR F ρ w v y):TR F' ρ' w' v y:=h.imp (fun h=>h) fun h=>h.mono hρ hw
theorem TR.ext{A:Area}{ρ ρ':Rho}{g g':View}{w w':World}(h:Ext (Own ρ g) ρ w (Own ρ' g') ρ' w'){v:Value}{y:AV}(hc:TR (Forb A ρ g) ρ w v y):TR (Forb A ρ' g') ρ' w' v y:=hc.imp (fun h=>h) fun hc=>hc.ext h
def FRel(F:Area)(ρ:Rho)(w:World)(tmps:Array Value)(τ:Fr):Prop:= ∀i,TR F ρ w (tmps.getD i Go.undef) (τ i)
def Glob(E:Env)(F:Area)(ρ:Rho)(w:World):Prop:= ∀i cs,E.G i=some cs→CR F ρ w (.pointer (some ⟨i,0,none⟩)) (.fp cs 0)
variable {E:Env} {a:Act} {τ:Fr}
theorem clo_nil{f:Nat}:CR F ρ w (.func (.func f) #[] #[]) (.clo f [] []):=
 .clo rfl rfl (fun _=>Go.undef) (fun _=>Go.undef) (fun j y h=>by simp at h) (fun j y h=>by simp at h) (fun j y h=>by simp at h) (fun j y h=>by simp at h)
theorem ev_cr(hf:FRel F ρ w a.tmps τ)(hg:Glob E F ρ w){x:Operand}{y:AV}(h:ev E τ x= .ok y):CR F ρ w (a.eval x) y:=by
 cases x with
 |tmp t=>
  simp only[ev]at h;split at h
  ·cases h
  ·rename_i hne
   cases h
   exact(hf t).resolve_left fun⟨sz,l,e⟩=>hne _ _ e
 |const v=>exact ofV_cr (lift_ok h)
 |global g=>
  have:=lift_ok h
  cases hG:E.G g with
  |none=>simp [hG]at this
  |some cs=>simp [hG]at this;subst this;exact hg g cs hG
 |func f=>simp only[ev,R.ok.injEq]at h;subst h;exact clo_nil
theorem evs_cr(hf:FRel F ρ w a.tmps τ)(hg:Glob E F ρ w): ∀{xs:List Operand} {ys:List AV},evs E τ xs= .ok ys→CRs F ρ w (xs.map a.eval) ys
 | [],ys,h=>by cases h;exact .nil
 |x::xs,ys,h=>by
  obtain⟨v,hv,h⟩:=R.bind_ok h;obtain⟨vs,hvs,h⟩:=R.bind_ok h;cases h;exact .cons (ev_cr hf hg hv) (evs_cr hf hg hvs)
def CRo(F:Area)(ρ:Rho)(w:World):Option Value→Option AV→Prop
 |none,none=>True
 |some v,some y=>CR F ρ w v y
 |_,_=>False
theorem evo_cr(hf:FRel F ρ w a.tmps τ)(hg:Glob E F ρ w){x:Option Operand}{y:Option AV}(h:evo E τ x= .ok y):CRo F ρ w (x.map a.eval) y:=by
 cases x with
 |none=>cases h;trivial
 |some x=>obtain⟨v,hv,h⟩:=R.bind_ok h;cases h;exact ev_cr hf hg hv
theorem info_ok{P:Program}{t:TypeId}{i:TypeInfo}(h:info P t= .ok i):P.info? t=some i:=lift_ok h
theorem under_ok{P:Program}{t:TypeId}{d:TypeDesc}(h:under P t= .ok d):P.underlying t=some d:=lift_ok h
theorem run_under{P:Program}{t:TypeId}{d:TypeDesc}(h:under P t= .ok d)(w:World):(underlying t).run P w= .ok d w:=run_underlying (under_ok h) w
theorem size_info{P:Program}{t:TypeId}{n:Nat}(h:size P t= .ok n): ∃i,P.info? t=some i∧i.size=n:=by
 obtain⟨i,hi,h⟩:=R.bind_ok h;cases h;exact⟨i,info_ok hi,rfl⟩
theorem run_size{P:Program}{t:TypeId}{n:Nat}(h:size P t= .ok n)(w:World):(sizeOf t).run P w= .ok n w:=by
 obtain⟨i,hi,rfl⟩:=size_info h;simp[sizeOf,typeInfo,hi]
theorem run_info{P:Program}{t:TypeId}{i:TypeInfo}(h:info P t= .ok i)(w:World):(typeInfo t).run P w= .ok i w:=by simp[typeInfo,info_ok h]
theorem zero_info{P:Program}{t:TypeId}{y:AV}(h:zero P t= .ok y): ∃i z,P.info? t=some i∧i.zero=some z∧ofV z=some y:=by
 obtain⟨i,hi,h⟩:=R.bind_ok h;have:=lift_ok h
 cases hz:i.zero with
 |none=>simp [hz]at this
 |some z=>exact⟨i,z,info_ok hi,hz,by simpa [hz]using this⟩
theorem run_zero{P:Program}{t:TypeId}{y:AV}(h:zero P t= .ok y)(w:World): ∃z,(zeroValue t).run P w= .ok z w∧ofV z=some y:=by
 obtain⟨i,z,hi,hz,ho⟩:=zero_info h;exact⟨z,by simp[zeroValue,typeInfo,hi,hz],ho⟩
theorem run_isAgg{P:Program}{t:TypeId}{b:Bool}(h:aggT P t= .ok b)(w:World):(isAgg t).run P w= .ok b w:=by
 obtain⟨d,hd,h⟩:=R.bind_ok h;unfold isAgg;rw[Sem.run_bind,run_under hd]
 cases d<;>simp at h ⊢ <;>exact h
theorem partA_cr{P:Program}{t:TypeId}{cs:List AV}{off:Nat}{y:AV}(h:partA P t cs off= .ok y){vs:Array Value}(hc:CRs F ρ w vs.toList cs):
  ∃v,(part t vs off).run P w= .ok v w∧CR F ρ w v y:=by
 obtain⟨b,hb,h⟩:=R.bind_ok h;unfold part;rw[Sem.run_bind,run_isAgg hb]
 cases b with
 |true=>
  simp only[if_true]at h;obtain⟨s,hs,h⟩:=R.bind_ok h
  split at h<;>cases h
  refine⟨.agg (vs.extract off (off+s)),by simp[run_size hs], .agg_of ?_⟩;rw[Array.toList_extract,List.extract_eq_take_drop];have:=(hc.drop off).take s
  simpa [Nat.add_sub_cancel_left]using this
 |false=>
  simp only[Bool.false_eq_true,if_false]at h;obtain⟨v,hv,hcr⟩:=hc.get (lift_ok h);rw[Array.getElem?_toList]at hv;exact⟨v,by simp[hv],hcr⟩
end
end Go.Proofs.YthnajefdiljneaaDoor.AM
namespace Go.Proofs.YthnajefdiljneaaDoor.AM
set_option linter.unusedSectionVars false
set_option linter.unusedVariables false
set_option linter.unusedSimpArgs false
section
variable {F:Area} {ρ:Rho} {w:World}
def Smet(P:Program)(S:TypeId→Bool):Prop:= ∀t,S t=true→P.stoodInHeld t=false
theorem eqTF{P:Program}{S:TypeId→Bool}(hS:Smet P S): ∀n,
  (∀t x y b,eqT P S n t x y=some b→ ∀D,n≤D→ ∀(F:Area) (ρ:Rho) (w:World) u v,CR F ρ w u x→CR F ρ w v y→(Op.equalIn D t u v).run P w= .ok b w)∧
  (∀fs xs ys b,eqF P S n fs xs ys=some b→ ∀D,n≤D→ ∀(F:Area) (ρ:Rho) (w:World) (us vs:Array Value),CRs F ρ w us.toList xs→CRs F ρ w vs.toList ys→(Op.eqFields D us vs fs).run P w= .ok b w):=by
 intro n
 induction n with
 |zero=>exact⟨fun t x y b h=>by simp[eqT]at h,fun fs xs ys b h=>by simp[eqF]at h⟩
 |succ n ih=>
  refine⟨fun t x y b h D hD F ρ w u v hu hv=>?_,fun fs xs ys b h D hD F ρ w us vs hus hvs=>?_⟩
  ·obtain⟨D,rfl⟩: ∃d,D=d+1:=⟨D-1,by omega⟩
   unfold eqT at h;split at h
   ·rename_i hd
    obtain rfl:u=_:=toV_eq (by rfl) hu;obtain rfl:v=_:=toV_eq (by rfl) hv;cases h;exact run_equalIn_bool' w D t _ _ hd
   ·rename_i hd
    obtain rfl:u=_:=toV_eq (by rfl) hu;obtain rfl:v=_:=toV_eq (by rfl) hv
    split at h<;>cases h
    rename_i hk;simp[Op.equalIn,run_underlying hd,hk]
   ·rename_i hd
    obtain rfl:u=_:=toV_eq (by rfl) hu;obtain rfl:v=_:=toV_eq (by rfl) hv;cases h;simp[Op.equalIn,run_underlying hd]
   ·rename_i fs xs ys hd
    obtain⟨us,rfl,hus⟩:=hu.agg_inv;obtain⟨vs,rfl,hvs⟩:=hv.agg_inv;split at h
    ·rename_i hs
     have hfo:P.fieldsOf t=fs:=by simp[Program.fieldsOf,hd]
     rw[run_equalIn_struct w D t us vs (by rw[hfo];exact hd) (hS t hs),hfo];exact ih.2 _ _ _ _ h D (by omega) F ρ w us vs hus hvs
    ·cases h
   ·cases h
  ·cases fs with
   |nil=>simp [eqF]at h;subst h;simp[Op.eqFields]
   |cons f fs=>
    unfold eqF at h;split at h
    ·cases h
    ·rename_i hname
     have hne:f.name≠ "_" :=by simpa using hname
     split at h
     ·rename_i a b' ha hb
      split at h
      ·rename_i p q hp hq
       cases h;obtain⟨ua,hua,hca⟩:=partA_cr ha hus;obtain⟨vb,hvb,hcb⟩:=partA_cr hb hvs
       have h1:=ih.1 _ _ _ _ hp D (by omega) F ρ w ua vb hca hcb
       have h2:=ih.2 _ _ _ _ hq D (by omega) F ρ w us vs hus hvs
       simp only[Op.eqFields,ne_eq,hne,not_false_eq_true,if_true,Sem.run_bind,hua,Result.andThen_ok,hvb,h1,Sem.run_ite,h2,Sem.run_pure]
       cases p<;>simp
      ·cases h
     ·cases h
theorem eqT_run{P:Program}{S:TypeId→Bool}(hS:Smet P S){t:TypeId}{x y:AV}{b:Bool}(h:eqT P S 99 t x y=some b){u v:Value}(hu:CR F ρ w u x)(hv:CR F ρ w v y):
  (Op.equal t u v).run P w= .ok b w:=(eqTF hS 99).1 t x y b h 10000 (by omega) F ρ w u v hu hv
theorem guard_plain{P:Program}{u v:Value}(h: ∀cs,u≠ .agg cs)(h':u≠ .nilIface)(op:BinOp)(t:TypeId)(ox oy:Operand)(w:World):(eqGuard op t ox oy u v).run P w= .ok () w:=by
 have:eqGuard op t ox oy u v=(if(!(match op with| .eql| .neq=>true|_=>false))=true then pure ()else pure ():Sem Unit):=by
  unfold eqGuard
  cases u<;>first|rfl|exact absurd rfl h'|exact absurd rfl (h _)
 rw[this];simp
theorem eqA_run{P:Program}{S:TypeId→Bool}(hS:Smet P S){t:TypeId}{x y:AV}{b:Bool}(h:eqA P S t x y= .ok b){u v:Value}(hu:CR F ρ w u x)(hv:CR F ρ w v y)(op:BinOp)(ox oy:Operand):
  (Op.equal t u v).run P w= .ok b w∧(eqGuard op t ox oy u v).run P w= .ok () w:=by
 obtain⟨d,hd,h⟩:=R.bind_ok h;have hd':=under_ok hd;obtain⟨D,hstep⟩: ∃D,Op.equal t u v=Op.equalIn (D+1) t u v:=⟨9999,rfl⟩;split at h
 case h_15 e b0 off b1 off' hd0=>
  obtain⟨s,hs,h2⟩:=R.bind_ok h;split at h2
  ·rename_i hc
   obtain⟨rfl,hs0⟩:=hc;cases h2
   cases hu with
   |ptr h1=>
    cases hv with
    |ptr h2=>
     rw[h1]at h2;cases h2;refine⟨?_,guard_plain (by intro cs h;cases h) (by intro h;cases h) _ _ _ _ _⟩;rw[hstep];simp[Op.equalIn,run_underlying hd',run_size hs,hs0,sameAddr];rw[Bool.eq_iff_iff];simp
  ·cases h2
 case h_20 xs ys=>
  split at h
  ·cases h
  ·rename_i hgd
   refine⟨eqT_run hS (lift_ok h) hu hv,?_⟩;obtain⟨us,rfl,_⟩:=hu.agg_inv;obtain⟨vs,rfl,_⟩:=hv.agg_inv
   have hgd':P.eqGuardType P.depth t=false:=by simpa using hgd
   unfold eqGuard;simp only[Sem.run_bind,Sem.run_ite,run_program,Result.andThen_ok,hgd',Bool.not_false,if_true,Sem.run_pure];simp
 case h_21=>cases h
 all_goals
  cases h;cases hu;cases hv;refine⟨?_,guard_plain (by intro cs h;cases h) (by intro h;cases h) _ _ _ _ _⟩;rw[hstep];simp[Op.equalIn,run_underlying hd']
theorem binA_run{E:Env}(hS:Smet E.P E.S){op:BinOp}{t:TypeId}{x y z:AV}(h:binA E.P E.S op t x y= .ok z){u v:Value}(hu:CR F ρ w u x)(hv:CR F ρ w v y)(ox oy:Operand):
  ∃r,(do eqGuard op t ox oy u v;binOp op t u v:Sem Value).run E.P w= .ok r w∧CR F ρ w r z:=by
 unfold binA at h;split at h
 ·rename_i a b ha hb
  obtain rfl:=toV_eq ha hu;obtain rfl:=toV_eq hb hv;have:=lift_ok h
  cases hr:pureRun E.P (binOp op t u v)with
  |none=>simp [hr]at this
  |some r=>
   simp[hr]at this;refine⟨r,?_,ofV_cr this⟩
   have hg:(eqGuard op t ox oy u v).run E.P w= .ok () w:=by
    refine guard_plain (fun cs=>?_) ?_ _ _ _ _ _<;>(intro he;cases x<;>simp [AV.toV]at ha<;>subst ha<;>cases he)
   rw[Sem.run_bind,hg,Result.andThen_ok];exact pureRun_run hr w
 ·rename_i hno
  have hnn: ∀(r:Value),u= .string ByteArray.empty→True:=fun _ _=>trivial
  split at h
  ·obtain⟨b,hb,h⟩:=R.bind_ok h
   cases h;obtain⟨h1,h2⟩:=eqA_run hS hb hu hv .eql ox oy;refine⟨.bool b,?_, .bool b⟩;rw[Sem.run_bind,h2,Result.andThen_ok]
   have:binOp .eql t u v=(do pure (.bool (←Op.equal t u v)):Sem Value):=by
    obtain⟨d,hd,hb⟩:=R.bind_ok hb
    split at hb<;>first|(cases hb;done)|(cases hu<;>cases hv<;>rfl)
   rw[this];simp[h1]
  ·obtain⟨b,hb,h⟩:=R.bind_ok h
   cases h;obtain⟨h1,h2⟩:=eqA_run hS hb hu hv .neq ox oy;refine⟨.bool (!b),?_, .bool _⟩;rw[Sem.run_bind,h2,Result.andThen_ok]
   have:binOp .neq t u v=(do pure (.bool (!(←Op.equal t u v))):Sem Value):=by
    obtain⟨d,hd,hb⟩:=R.bind_ok hb
    split at hb<;>first|(cases hb;done)|(cases hu<;>cases hv<;>rfl)
   rw[this];simp[h1]
  ·cases h
end
end Go.Proofs.YthnajefdiljneaaDoor.AM
namespace Go.Proofs.YthnajefdiljneaaDoor.AM
set_option linter.unusedSectionVars false
set_option linter.unusedVariables false
set_option linter.unusedSimpArgs false
section
variable {F:Area} {ρ:Rho} {w:World}
theorem add0(B o n:Nat):(⟨B,o,none⟩:Addr).add n=⟨B,o+n,none⟩:=by
 unfold Addr.add;split<;>simp_all
theorem run_bound{P:Program}{v:Value}{y:AV}{n:Nat}{d:Nat}(h:boundA (some y) d= .ok n)(hc:CR F ρ w v y){top:Nat}(hle:n≤top)(code:BoundsCode)(w':World):(Instr.sliceBound v top code).run P w'= .ok n w':=by
 obtain⟨i,hi,h⟩:=R.bind_ok h
 split at h<;>cases h
 rename_i h0;obtain⟨k,rfl⟩:=intA_eq hi hc;simp only[Instr.sliceBound,asIntOf,Sem.run_bind,Sem.run_pure,Result.andThen_ok,Sem.run_ite];rw[if_pos ⟨h0,by omega⟩]
theorem run_bounds{P:Program}{isS:Bool}{len cap:Nat}{lo hi mx:Option Value}{alo ahi amx:Option AV}{l h m:Nat}(hlo:CRo F ρ w lo alo)(hhi:CRo F ρ w hi ahi)(hmx:CRo F ρ w mx amx)
  (h1:boundA alo 0= .ok l) (h2:boundA ahi len= .ok h) (h3:boundA amx cap= .ok m) (h4:l≤h) (h5:h≤m) (h6:m≤cap) (h7:amx.isNone∨ahi.isSome) (w':World):
  (Instr.sliceBounds isS len cap lo hi mx).run P w'= .ok (l,h,m) w':=by
 unfold Instr.sliceBounds
 cases mx<;>cases amx<;>simp only[CRo]at hmx<;>cases hi<;>cases ahi<;>simp only[CRo]at hhi<;>cases lo<;>cases alo<;>simp only[CRo]at hlo
 all_goals first|(simp at h7;done)|skip
 all_goals (try cases h1)<;>(try cases h2)<;>(try cases h3)
 all_goals simp only[Sem.run_bind,Sem.run_pure,Result.andThen_ok]
 all_goals try rw[run_bound h3 hmx h6 _ w',Result.andThen_ok]
 all_goals try rw[run_bound h2 hhi h5 _ w',Result.andThen_ok]
 all_goals try rw[run_bound h1 hlo h4 _ w',Result.andThen_ok]
theorem Elems.cut{cs:Array Value}{o sz:Nat}{l:List AV}(h:Elems F ρ w cs o sz l)(a n:Nat):Elems F ρ w cs (o+a*sz) sz ((l.drop a).take n):=by
 refine⟨fun x hx=>h.1 x (List.mem_of_mem_drop (List.mem_of_mem_take hx)),?_⟩
 have hd: ∀x,x∈l.drop a→x.cells.length=sz:=fun x hx=>h.1 x (List.mem_of_mem_drop hx)
 rw[←flat_take hd,←flat_drop h.1];have:=(h.2.drop (a*sz)).take (((l.drop a).take n).length*sz);rw[List.drop_take,List.drop_drop,List.take_take]at this
 have hle:((l.drop a).take n).length*sz≤l.length*sz-a*sz:=by
  rw[←Nat.sub_mul];exact Nat.mul_le_mul_right _ (by simp;omega)
 rw[Nat.min_eq_left hle]at this
 have e:((flat l).drop (a*sz)).take (((l.drop a).take n).length*sz)=((flat l).drop (a*sz)).take (n*sz):=by
  rw[flat_drop h.1]
  by_cases hn:n≤(l.drop a).length
  ·rw[List.length_take,Nat.min_eq_left hn]
  ·rw[List.length_take,Nat.min_eq_right (by omega),←flat_length hd,List.take_length,List.take_of_length_le]
   rw[flat_length hd];exact Nat.mul_le_mul_right _ (by omega)
 rw[e]at this;exact this
theorem CRo.some_of{v:Option Value}{y:Option AV}(h:CRo F ρ w v y):v.isSome=y.isSome:=by
 cases v<;>cases y<;>simp_all [CRo]
theorem cutA_cr{v:Value}{x y:AV}{l h n:Nat}{cut:Bool}(hx:CR F ρ w v x)(hn:lenA x= .ok n){s:Nat}(hs:szA x s=true)(hy:cutA x l h n cut= .ok y)(h1:l≤h)(h2:h≤n):
  ∃b c,v= .slice b n c∧n≤c∧ ∀m,m=(if cut then h else c)→CR F ρ w (.slice (if m=l then b else b.map (·.add (l*s))) (h-l) (m-l)) y:=by
 cases hx with
 |nils=>
  cases hn;cases hy
  obtain rfl:h=0:=by omega
  obtain rfl:l=0:=by omega
  exact⟨none,0,rfl,Nat.le_refl _,fun m hm=>by cases cut<;>simp at hm<;>subst hm<;>exact .nils⟩
 | @lst0 base _ _ ht=>
   cases hn;cases hy
   obtain rfl:h=0:=by simp at h2;omega
   obtain rfl:l=0:=by omega
   exact⟨base,0,rfl,Nat.le_refl _,fun m hm=>by
    cases cut<;>simp at hm<;>subst hm
    ·simpa using CR.lst0 (base:=base) ht
    ·simpa using CR.lst0 (F:=F) (ρ:=ρ) (w:=w) (base:=base) (tl:=Tl.clip) nofun⟩
 | @lst B o n' c sz cs e fz ls tl hb hn' hsz hF vs g1 g2 hl hr hc ht=>
   have hcr:CR F ρ w (.slice (some ⟨B,o,none⟩) n' c) (.lst sz ls tl):= .lst hb hn' hsz hF vs g1 g2 hl hr hc ht;obtain⟨B',o',c',cs',e',fz',heq,hb',hF',he,_⟩:=CR.lst_parts hb hn' hsz hF vs g1 g2 hl hr hc ht;cases heq;rw[hb]at hb';cases hb';cases hn;simp only[cutA,R.ok.injEq]at hy;subst hy;simp[szA]at hs;subst hs;refine⟨_,_,rfl,hl,fun m hm=>?_⟩
   have hlen:((ls.drop l).take (h-l)).length=h-l:=by simp;omega
   have hmc:m≤c∧h≤m:=by cases cut<;>simp at hm<;>omega
   by_cases hml:m=l
   ·rw[if_pos hml]
    rw[show h-l=0 by omega,show m-l=0 by omega,List.take_zero];refine .lst (n:=0) (c:=0) hb rfl (fun x hx=>by simp at hx) (fun j hj=>by simp at hj) vs (fun i x j y hx=>by simp at hx) (fun i x j y hx=>by simp at hx) (by simp) (by simp;omega) (fun _=>rfl) (fun t _ hlt=>by simp at hlt)
   ·rw[if_neg hml]
    simp only[Option.map_some,add0]
    suffices key:CR F ρ w (.slice (some ⟨B,o+l*sz,none⟩) ((ls.drop l).take (h-l)).length (m-l)) (.lst sz ((ls.drop l).take (h-l)) (if cut=true then Tl.clip else if h=ls.length then tl else Tl.open_)) by
     rw[hlen]at key;exact key
    refine .lst_of (c:=m-l) hb (fun j hj=>?_) (he.cut l (h-l)) (by omega) ?_ (fun hq=>?_) (fun t hq hlt=>?_)
    ·rw[hlen]at hj
     have:l*sz+j<ls.length*sz:=by
      have h3:(h-l)*sz=h*sz-l*sz:=Nat.sub_mul ..
      have h4:=Nat.mul_le_mul_right sz h2
      have h5:=Nat.mul_le_mul_right sz h1
      omega
     have:=hF (l*sz+j) this
     rwa [←Nat.add_assoc]at this
    ·have h3:(m-l)*sz=m*sz-l*sz:=Nat.sub_mul ..
     have h4:=Nat.mul_le_mul_right sz hmc.1
     have h5:=Nat.mul_le_mul_right sz (show l≤m by omega)
     omega
    ·rw[hlen]
     cases cut
     ·simp only[Bool.false_eq_true,if_false]at hq hm
      split at hq
      ·have:=hc hq;omega
      ·cases hq
     ·simp at hm;omega
    ·cases cut
     ·simp only[Bool.false_eq_true,if_false]at hq hm
      split at hq
      ·rename_i hhn
       rw[hlen]at hlt;have:=ht t hq (by omega);rw[this,hlen];have h3:(h-l)*sz=h*sz-l*sz:=Nat.sub_mul ..
       have h5:=Nat.mul_le_mul_right sz h1
       subst hhn
       congr 2;omega
      ·cases hq
     ·cases hq
 | @sl b B o off len sz c clip cs e fz hb0 hb hr hl hc ho=>
   cases hn;cases hy;simp[szA]at hs;subst hs;refine⟨_,_,rfl,hl,fun m hm=>?_⟩
   have hmc:m≤c∧h≤m:=by cases cut<;>simp at hm<;>omega
   have hroom:(off+l+(m-l))*sz≤cs.size:=Nat.le_trans (Nat.mul_le_mul_right _ (by omega)) hr
   have hclip:(cut||(clip&&h==n))=true→m-l=h-l:=by
    intro hq;cases cut
    ·simp at hq hm;have:=hc hq.1;omega
    ·simp at hm;omega
   by_cases hml:m=l
   ·rw[if_pos hml]
    exact .sl hb0 hb hroom (by omega) hclip (.inl (by omega))
   ·rw[if_neg hml]
    simp only[Option.map_some,add0];refine .sl hb0 hb hroom (by omega) hclip (.inr ?_)
    rcases ho with h'|h'
    ·omega
    ·rw[h',Nat.add_mul]
 | @vsl b B o off len c clip hb0 hl hc ho=>
   cases hn;cases hy;simp[szA]at hs;subst hs;refine⟨_,_,rfl,hl,fun m hm=>?_⟩
   have hmc:m≤c∧h≤m:=by cases cut<;>simp at hm<;>omega
   have hclip:(cut||(clip&&h==n))=true→m-l=h-l:=by
    intro hq;cases cut
    ·simp at hq hm;have:=hc hq.1;omega
    ·simp at hm;omega
   by_cases hml:m=l
   ·rw[if_pos hml]
    exact .vsl hb0 (by omega) hclip (.inl (by omega))
   ·rw[if_neg hml]
    simp only[Option.map_some,add0];refine .vsl hb0 (by omega) hclip (.inr ?_)
    rcases ho with h'|h'<;>omega
 |_=>cases hn
theorem sliceA_run{P:Program}{t:TypeId}{x y:AV}{lo hi mx:Option AV}(h:sliceA P t x lo hi mx= .ok y){v:Value}{vlo vhi vmx:Option Value}(hx:CR F ρ w v x)(hlo:CRo F ρ w vlo lo)(hhi:CRo F ρ w vhi hi)(hmx:CRo F ρ w vmx mx):
  ∃r,(Instr.sliceAt t v vlo vhi vmx).run P w= .ok r w∧CR F ρ w r y:=by
 obtain⟨d,hd,h⟩:=R.bind_ok h
 have hu:=run_under hd w
 cases d with
 |string=>
  simp only at h
  cases x with
  |str s=>
   simp only at h;obtain⟨l,hl,h⟩:=R.bind_ok h;obtain⟨hh,hhh,h⟩:=R.bind_ok h
   by_cases hc:l≤hh∧hh≤s.size∧mx.isNone=true
   case neg=>rw [if_neg hc]at h;cases h
   rw[if_pos hc]at h;cases h;obtain rfl:v=_:=toV_eq (by rfl) hx
   have hnone:vmx=none:=by have:=hmx.some_of;cases vmx<;>cases mx<;>simp_all
   subst hnone;have hb:=run_bounds (P:=P) (isS:=false) (len:=s.size) (cap:=s.size) (m:=s.size) (mx:=none) (amx:=none) hlo hhi trivial hl hhh rfl hc.1 hc.2.1 (Nat.le_refl _) (.inl rfl) w;refine⟨.string (s.extract l hh),?_, .str _⟩;simp[Instr.sliceAt,Instr.slice,hu,hb]
  |_=>cases h
 |slice e=>
  simp only at h;obtain⟨sz,hsz,h⟩:=R.bind_ok h;obtain⟨n,hn,h⟩:=R.bind_ok h;obtain⟨l,hl,h⟩:=R.bind_ok h;obtain⟨hh,hhh,h⟩:=R.bind_ok h;obtain⟨m,hm,h⟩:=R.bind_ok h;split at h
  ·rename_i hc
   obtain⟨b,c,rfl,hnc,hcr⟩:=cutA_cr hx hn hc.2.2.2.1 h hc.1 hc.2.1
   have hm':boundA mx c= .ok (if mx.isSome then hh else c):=by
    cases mx with
    |none=>rfl
    |some u=>rw [←hc.2.2.1];exact hm
   have hb:=run_bounds (P:=P) (isS:=true) (len:=n) (cap:=c) hlo hhi hmx hl hhh hm' hc.1 (by split<;>omega) (by split<;>omega) hc.2.2.2.2 w;refine⟨_,?_,hcr _ rfl⟩;simp[Instr.sliceAt,Instr.slice,hu,hb,run_size hsz]
  ·cases h
 |array n e=>
  simp only at h;obtain⟨sz,hsz,h⟩:=R.bind_ok h;obtain⟨l,hl,h⟩:=R.bind_ok h;obtain⟨hh,hhh,h⟩:=R.bind_ok h;split at h
  ·rename_i hc
   cases x with
   |ptr b off=>
    cases h
    have hnone:vmx=none:=by have:=hmx.some_of;cases vmx<;>cases mx<;>simp_all
    subst hnone;have hb:=run_bounds (P:=P) (isS:=false) (len:=n) (cap:=n) (m:=n) (mx:=none) (amx:=none) hlo hhi trivial hl hhh rfl hc.1 hc.2.1 (Nat.le_refl _) (.inl rfl) w
    cases hx with
    | @ptr _ B _ hb0=>
      refine⟨_,by simp[Instr.sliceAt,Instr.sureAddr,hu,hb,run_size hsz];rfl,?_⟩
      by_cases hml:n=l
      ·rw[if_pos hml];exact .vsl hb0 (by omega) (by simp) (.inl (by omega))
      ·rw[if_neg hml,hc.2.2.2,add0];exact .vsl hb0 (by omega) (by simp) (.inr (by omega))
   |_=>cases h
  ·cases h
 |_=>cases h
end
end Go.Proofs.YthnajefdiljneaaDoor.AM
namespace Go.Proofs.YthnajefdiljneaaDoor.AM
set_option linter.unusedSectionVars false
set_option linter.unusedVariables false
set_option linter.unusedSimpArgs false
section
variable {F:Area} {ρ:Rho} {w:World}
theorem fold_set: ∀(us:List Value) (k off:Nat) (cs:Array Value) {acs l:List AV},CRs F ρ w cs.toList acs→CRs F ρ w us l→
  CRs F ρ w ((us.zipIdx k).foldl (fun(cs:Array Value) (p:Value×Nat)=>cs.setIfInBounds (off+p.2) p.1) cs).toList (setCells acs (off+k) l)
 | [],k,off,cs,acs,l,h,h'=>by
   obtain rfl:l= []:=by have:=h'.1;cases l<;>simp_all
   exact h
 |u::us,k,off,cs,acs,l,h,h'=>by
  cases l with
  |nil=>have:=h'.1;simp at this
  |cons y l=>
   simp only[List.zipIdx_cons,List.foldl_cons,setCells]
   refine fold_set us (k+1) off _ ?_ h'.tail
   rw[Array.toList_setIfInBounds];exact h.set h'.head _
theorem setCells_length: ∀(l cs:List AV) (off:Nat),(setCells cs off l).length=cs.length
 | [],cs,off=>rfl
 |y::l,cs,off=>by simp[setCells,setCells_length l]
theorem fillA_run{place:Nat→Option (Nat×Nat)}: ∀{parts:List (Nat×AV)} {vparts:List (Nat×Value)} {cells cells':List AV} {cs:Array Value},
  fillA place cells parts= .ok cells'→vparts.map (·.1)=parts.map (·.1)→CRs F ρ w (vparts.map (·.2)) (parts.map (·.2))→CRs F ρ w cs.toList cells→
  ∃cs',Instr.fill place cs vparts=some cs'∧CRs F ρ w cs'.toList cells'
 | [],vparts,cells,cells',cs,h,h1,h2,h3=>by
   obtain rfl:vparts= []:=by simpa using h1
   cases h;exact⟨cs,rfl,h3⟩
 |(i,y)::parts,vparts,cells,cells',cs,h,h1,h2,h3=>by
  cases vparts with
  |nil=>simp at h1
  |cons p vparts=>
   obtain⟨j,v⟩:=p;simp only[List.map_cons,List.cons.injEq]at h1;obtain⟨rfl,h1⟩:=h1;simp only[List.map_cons]at h2;simp only[fillA]at h
   cases hp:place j with
   |none=>simp [hp]at h
   |some q=>
    obtain⟨off,sz⟩:=q;simp only[hp]at h;split at h
    ·rename_i hc
     have hv:=h2.head.cells
     have hsz:v.cells.size=sz:=by have:=hv.1;simp at this;omega
     have hcs:cs.size=cells.length:=by have:=h3.1;simpa using this
     obtain⟨cs',hr,hcr⟩:=fillA_run (cs:=v.cells.zipIdx.foldl (fun(cs:Array Value) (p:Value×Nat)=>cs.setIfInBounds (off+p.2) p.1) cs) h h1 h2.tail (by
      have:=fold_set v.cells.toList 0 off cs h3 hv;rw[←Array.foldl_toList]
      simpa using this)
     refine⟨cs',?_,hcr⟩;simp only[Instr.fill,hp];rw[if_neg]
     ·exact hr
     ·simp;omega
    ·cases h
theorem sizesR_places{P:Program}: ∀{fs:List Field} {ps:List (Nat×Nat)},sizesR P fs= .ok ps→fs.mapM (fun f=>(P.info? f.type).map fun i=>(f.offset,i.size))=some ps
 | [],ps,h=>by cases h;rfl
 |f::fs,ps,h=>by
  obtain⟨s,hs,h⟩:=R.bind_ok h;obtain⟨r,hr,h⟩:=R.bind_ok h;cases h;obtain⟨i,hi,rfl⟩:=size_info hs;simp[List.mapM_cons,hi,sizesR_places hr]
theorem buildA_run{P:Program}{t:TypeId}{parts:List (Nat×AV)}{y:AV}(h:buildA P t parts= .ok y){vparts:Array (Nat×Value)}(h1:vparts.toList.map (·.1)=parts.map (·.1))(h2:CRs F ρ w (vparts.toList.map (·.2)) (parts.map (·.2))):
  ∃v,(Instr.build t vparts).run P w= .ok v w∧CR F ρ w v y:=by
 obtain⟨z,hz,h⟩:=R.bind_ok h;obtain⟨d,hd,h⟩:=R.bind_ok h;obtain⟨it,zv,hit,hzv,ho⟩:=zero_info hz;have hzc:=(ofV_cr (F:=F) (ρ:=ρ) (w:=w) ho).cells
 have hu:=under_ok hd
 cases d with
 |struct fs=>
  simp only at h;obtain⟨ps,hps,h⟩:=R.bind_ok h;obtain⟨cs,hcs,h⟩:=R.bind_ok h;cases h;obtain⟨cs',hf,hcr⟩:=fillA_run hcs h1 h2 hzc;refine⟨.agg cs',run_build w t vparts cs' ?_, .agg_of hcr⟩;simp only[Program.built,hit,hu,hzv,sizesR_places hps]
  have:(fun(i:Nat)=>ps.toArray[i]?)=fun(i:Nat)=>ps[i]?:=by funext i;simp
  simpa [this]using hf
 |array n e=>
  simp only at h;obtain⟨s,hs,h⟩:=R.bind_ok h;obtain⟨cs,hcs,h⟩:=R.bind_ok h;cases h;obtain⟨cs',hf,hcr⟩:=fillA_run hcs h1 h2 hzc;obtain⟨i,hi,rfl⟩:=size_info hs;refine⟨.agg cs',run_build w t vparts cs' ?_, .agg_of hcr⟩;simp only[Program.built,hit,hu,hzv,hi];exact hf
 |_=>cases h
variable {E:Env} {a:Act} {τ:Fr}
theorem parts_cr(hf:FRel F ρ w a.tmps τ)(hg:Glob E F ρ w){parts:Array (Nat×Operand)}{vs:List AV}(h:evs E τ (parts.toList.map (·.2))= .ok vs):
  (parts.map fun(i,x)=>(i,a.eval x)).toList.map (·.1)=((parts.toList.map (·.1)).zip vs).map (·.1)∧CRs F ρ w ((parts.map fun(i,x)=>(i,a.eval x)).toList.map (·.2)) (((parts.toList.map (·.1)).zip vs).map (·.2)):=by
 have hc:=evs_cr hf hg h
 have hl:vs.length=parts.toList.length:=by have:=hc.1;simpa using this.symm
 constructor
 ·rw[List.map_fst_zip (by simp[←hl])];simp[List.map_map,Function.comp_def]
 ·rw[List.map_snd_zip (by simp[←hl])]
  have:(parts.map fun(i,x)=>(i,a.eval x)).toList.map (·.2)=(parts.toList.map (·.2)).map a.eval:=by simp[List.map_map,Function.comp_def]
  rw[this];exact hc
theorem fieldPlace_run{P:Program}{f:Field}{z:Nat}(hz:size P f.type= .ok z)(h0:z≠0)(B o:Nat)(w:World):(fieldPlace ⟨B,o,none⟩ f).run P w= .ok ⟨B,o+f.offset,none⟩ w:=by
 simp[fieldPlace,run_size hz,h0,add0]
theorem elem_fp{v:Value}{sz:Nat}{l:List AV}{tl:Tl}(h:CR F ρ w v (.lst sz l tl)){i:Nat}{x:AV}(hi:l[i]?=some x):
  ∃B o c,v= .slice (some ⟨B,o,none⟩) l.length c∧CR F ρ w (.pointer (some ⟨B,o+i*sz,none⟩)) (.fp x.cells 0):=by
 cases h with
 |lst0=>simp at hi
 | @lst B o n c _ cs e fz _ _ hb hn hsz hF vs h1 h2 hl hr hc ht=>
   subst hn;refine⟨B,o,c,rfl, .fp (base:=o+i*sz) hb (fun j hj=>?_) (vs i) (fun j y hy=>?_) (fun j y hy=>h2 i x j y hi hy) rfl⟩
   ·rw[hsz x (List.mem_of_getElem? hi)]at hj
    have:(i+1)*sz≤l.length*sz:=Nat.mul_le_mul_right sz (lt_of_getl hi);rw[Nat.add_mul]at this;have:=hF (i*sz+j) (by omega)
    rwa [←Nat.add_assoc]at this
   ·have:=h1 i x j y hi hy
    rwa [←Nat.add_assoc]at this
theorem indexAddr_run{t:TypeId}{x y:AV}{i:Int}{v:Value}{k:IntKind}(hx:CR F ρ w v x)
  (h:indexA E.P t x i= .ok y):
  ∃r,(Instr.indexAt t v (.int k i)).run E.P w= .ok r w∧CR F ρ w r y:=by
 obtain⟨d,hd,h⟩:=R.bind_ok h
 have hu:=run_under hd w
 cases d with
 |slice e=>
  simp only at h;obtain⟨s,hs,h⟩:=R.bind_ok h;obtain⟨n,hn,h⟩:=R.bind_ok h
  by_cases hc:0≤i∧i<n∧szA x s=true
  case neg=>rw [if_neg hc]at h;cases h
  rw[if_pos hc]at h
  cases hx with
  | @lst B o n' c sz cs e' fz l tl hb hn' hsz hF vs g1 g2 hl hr hc' ht=>
    have hcr:CR F ρ w (.slice (some ⟨B,o,none⟩) n' c) (.lst sz l tl):= .lst hb hn' hsz hF vs g1 g2 hl hr hc' ht;cases hn;simp only at h
    cases hg:l[i.toNat]? with
    |none=>simp [hg]at h
    |some u=>
     simp only[hg,R.ok.injEq]at h;subst h;obtain⟨B',o',c',he,hfp⟩:=elem_fp hcr hg;cases he
     have hss:sz=s:=by simpa [szA]using hc.2.2
     subst hss;refine⟨_,?_,hfp⟩;simp[Instr.indexAt,asIntOf,hu,hc.1,hc.2.1,run_size hs,add0]
  | @sl b B o off len sz c clip cs e' fz hb0 hb hr hl hc' ho=>
    cases hn;cases h
    have hss:sz=s:=by simpa [szA]using hc.2.2
    subst hss;refine⟨.pointer (some ⟨B,o+i.toNat*sz,none⟩),?_, .eptr hb0 ?_⟩
    ·simp[Instr.indexAt,asIntOf,hu,hc.1,hc.2.1,run_size hs,add0]
    ·rcases ho with h'|h'
     ·omega
     ·rw[h',Nat.add_mul];omega
  | @vsl b B o off len c clip hb0 hl hc' ho=>
    cases hn;cases h
    have hss:s=1:=by simpa [szA]using hc.2.2
    subst hss;refine⟨.pointer (some ⟨B,o+i.toNat*1,none⟩),?_,?_⟩
    ·simp[Instr.indexAt,asIntOf,hu,hc.1,hc.2.1,run_size hs,add0]
    ·have:o+i.toNat*1=off+i.toNat:=by rcases ho with h'|h'<;>omega
     rw[this];exact .ptr hb0
  |_=>cases h
 |array n e=>
  simp only at h;obtain⟨s,hs,h⟩:=R.bind_ok h
  by_cases hc:0≤i∧i<n
  case neg=>rw [if_neg hc]at h;cases h
  rw[if_pos hc]at h
  cases hx with
  | @ptr b B off hb0=>
    cases h;refine⟨.pointer (some ⟨B,off+i.toNat*s,none⟩),?_, .ptr hb0⟩;simp[Instr.indexAt,asIntOf,Instr.sureAddr,hu,hc.1,hc.2,run_size hs,add0]
  | @eptr b B j sz off o hb0 ho=>
    cases h;refine⟨.pointer (some ⟨B,o+i.toNat*s,none⟩),?_, .eptr hb0 (by omega)⟩;simp[Instr.indexAt,asIntOf,Instr.sureAddr,hu,hc.1,hc.2,run_size hs,add0]
  | @fp B base off o cs e' fz l hb hF vs h1 h2 ho=>
    cases h;refine⟨.pointer (some ⟨B,o+i.toNat*s,none⟩),?_, .fp hb hF vs h1 h2 (by omega)⟩;simp[Instr.indexAt,asIntOf,Instr.sureAddr,hu,hc.1,hc.2,run_size hs,add0]
  |_=>cases h
 |_=>cases h
theorem map_toArray1{α β:Type}{xs:Array α}{f:α→β}{l:List β}(h:xs.toList.map f=l):xs.map f=l.toArray:=by
 subst h;apply Array.ext';simp
theorem pureA_run(hS:Smet E.P E.S)(hf:FRel F ρ w a.tmps τ)(hg:Glob E F ρ w){o:Oper}{y:AV}(h:pureA E τ o= .ok y)(hk:kindOf E o.op= .pure):
  ∃v,(execOp a.eval o).run E.P w= .ok (.value v) w∧CR F ρ w v y:=by
 unfold execOp
 cases ho:o.op with
 |move x=>simp only[pureA,ho]at h;exact⟨_,rfl,ev_cr hf hg h⟩
 |assign x=>simp only[pureA,ho]at h;exact⟨_,rfl,ev_cr hf hg h⟩
 |pick c x z=>
  simp only[pureA,ho]at h;obtain⟨b,hb,h⟩:=R.bind_ok h
  have hc:=ev_cr hf hg hb
  split at h
  ·have:=toV_eq (x:= .bool true) (by rfl) hc
   exact⟨a.eval x,by simp[this,asBool],ev_cr hf hg h⟩
  ·have:=toV_eq (x:= .bool false) (by rfl) hc
   exact⟨a.eval z,by simp[this,asBool],ev_cr hf hg h⟩
  ·cases h
 |build t parts=>
  simp only[pureA,ho]at h;obtain⟨vs,hvs,h⟩:=R.bind_ok h;obtain⟨h1,h2⟩:=parts_cr hf hg hvs;obtain⟨v,hv,hc⟩:=buildA_run h h1 h2;exact⟨v,by simp only[Sem.run_bind,hv,Result.andThen_ok];rfl,hc⟩
 |nilCheck x=>
  simp only[pureA,ho]at h;obtain⟨b,hb,h⟩:=R.bind_ok h
  have hc:=ev_cr hf hg hb
  obtain⟨v,hv⟩: ∃v,a.eval x=v:=⟨_,rfl⟩;simp only[hv];rw[hv]at hc
  cases hc<;>simp only at h<;>cases h<;>exact⟨_,rfl,by constructor<;>assumption⟩
 |binOp op t x z yt=>
  simp only[pureA,ho]at h;obtain⟨u,hu,h⟩:=R.bind_ok h;obtain⟨v,hv,h⟩:=R.bind_ok h;obtain⟨r,hr,hc⟩:=binA_run hS h (ev_cr hf hg hu) (ev_cr hf hg hv) x z;exact⟨r,by simp only[Sem.run_bind]at hr ⊢;rw[hr];rfl,hc⟩
 |unOp op t x=>
  simp only[pureA,ho]at h;obtain⟨u,hu,h⟩:=R.bind_ok h;have:=lift_ok h
  cases hv:u.toV with
  |none=>simp [hv]at this
  |some v=>
   have he:=toV_eq hv (ev_cr hf hg hu)
   cases hr:pureRun E.P (Op.unary op v)with
   |none=>simp [hv,hr]at this
   |some r=>
    simp[hv,hr]at this;exact⟨r,by simp only[Sem.run_bind,he,pureRun_run hr w,Result.andThen_ok];rfl,ofV_cr this⟩
 |convert src dst x=>
  simp only[pureA,ho]at h;obtain⟨u,hu,h⟩:=R.bind_ok h;obtain⟨us,hus,h⟩:=R.bind_ok h;obtain⟨ud,hud,h⟩:=R.bind_ok h
  have hc:=ev_cr hf hg hu
  obtain⟨v,hv⟩: ∃v,a.eval x=v:=⟨_,rfl⟩;rw[hv]at hc
  have e1:=run_under hus w
  have e2:=run_under hud w
  clear hus hud;split at h
  ·cases hc
   cases h;exact⟨_,by simp only[Sem.run_bind,convert,e1,e2,Result.andThen_ok,hv];rfl, .int _ _⟩
  ·cases hc
   cases h;exact⟨_,by simp only[Sem.run_bind,convert,e1,e2,Result.andThen_ok,hv];rfl, .str _⟩
  ·cases h
 |makeFunc fn first caps=>
  simp only[pureA,ho]at h;split at h
  ·obtain⟨vs,hvs,h⟩:=R.bind_ok h
   obtain⟨us,hus,h⟩:=R.bind_ok h;cases h
   have c1:=evs_cr hf hg hvs
   have c2:=evs_cr hf hg hus
   refine⟨_,rfl,?_⟩
   have get: ∀{xs:Array Operand} {ys:List AV},CRs F ρ w (xs.toList.map a.eval) ys→ ∀(j:Nat) (y:AV),ys[j]?=some y→(xs.map a.eval)[j]?=some ((xs.map a.eval).getD j Go.undef)∧CR F ρ w ((xs.map a.eval).getD j Go.undef) y:=by
    intro xs ys hc j y hy;obtain⟨v,hv,hcr⟩:=hc.get hy;rw[←Array.toList_map,Array.getElem?_toList]at hv;simp only[Array.getD_eq_getD_getElem?,hv];exact⟨rfl,hcr⟩
   exact .clo (by have:=c1.1;simpa using this) (by have:=c2.1;simpa using this) (fun j=>(first.map a.eval).getD j Go.undef) (fun j=>(caps.map a.eval).getD j Go.undef) (fun j y hy=>(get c1 j y hy).1) (fun j y hy=>(get c1 j y hy).2) (fun j y hy=>(get c2 j y hy).1) (fun j y hy=>(get c2 j y hy).2)
  ·cases h
 |slice t x lo hi mx=>
  simp only[pureA,ho]at h;obtain⟨u,hu,h⟩:=R.bind_ok h;obtain⟨l,hl,h⟩:=R.bind_ok h;obtain⟨hh,hhh,h⟩:=R.bind_ok h;obtain⟨m,hm,h⟩:=R.bind_ok h;obtain⟨r,hr,hc⟩:=sliceA_run h (ev_cr hf hg hu) (evo_cr hf hg hl) (evo_cr hf hg hhh) (evo_cr hf hg hm);exact⟨r,by simp only[Sem.run_bind,hr,Result.andThen_ok];rfl,hc⟩
 |fieldAddr s x f=>
  simp only[pureA,ho]at h;obtain⟨u,hu,h⟩:=R.bind_ok h;obtain⟨d,hd,h⟩:=R.bind_ok h
  have hc:=ev_cr hf hg hu
  split at h
  ·rename_i fs
   obtain⟨fd,hfd,h⟩:=R.bind_ok h;obtain⟨z,hz,h⟩:=R.bind_ok h;split at h
   ·cases h
   ·rename_i h0
    have hfd:=lift_ok hfd
    obtain⟨v,hv⟩: ∃v,a.eval x=v:=⟨_,rfl⟩;rw[hv]at hc
    cases hc with
    | @ptr b B off hb0=>
      cases h;exact⟨.pointer (some ⟨B,off+fd.offset,none⟩),by simp[hv,Instr.fieldAt,Instr.sureAddr,run_under hd,hfd,fieldPlace_run hz h0], .ptr hb0⟩
    | @eptr b B j sz off o hb0 ho=>
      cases h;exact⟨.pointer (some ⟨B,o+fd.offset,none⟩),by simp[hv,Instr.fieldAt,Instr.sureAddr,run_under hd,hfd,fieldPlace_run hz h0], .eptr hb0 (by omega)⟩
    | @fp B base off o cs e' fz l hb hF vs h1 h2 ho=>
      cases h;exact⟨.pointer (some ⟨B,o+fd.offset,none⟩),by simp[hv,Instr.fieldAt,Instr.sureAddr,run_under hd,hfd,fieldPlace_run hz h0], .fp hb hF vs h1 h2 (by omega)⟩
    |_=>cases h
  ·cases h
 |field t x f=>
  simp only[pureA,ho]at h;obtain⟨u,hu,h⟩:=R.bind_ok h;obtain⟨d,hd,h⟩:=R.bind_ok h
  have hc:=ev_cr hf hg hu
  split at h
  ·obtain⟨fd,hfd,h⟩:=R.bind_ok h
   have hfd:=lift_ok hfd
   split at h
   ·obtain⟨vs,hvs,hcs⟩:=hc.agg_inv
    obtain⟨v,hv,hcv⟩:=partA_cr h hcs;exact⟨v,by simp[Instr.field,run_under hd,hfd,hvs,asAgg,hv],hcv⟩
   ·cases h
  ·cases h
 |indexAddr t x ix=>
  simp only[pureA,ho]at h;obtain⟨u,hu,h⟩:=R.bind_ok h;obtain⟨i,hi,h⟩:=R.bind_ok h;obtain⟨n,hn,h⟩:=R.bind_ok h;obtain⟨k,hk'⟩:=intA_eq hn (ev_cr hf hg hi);obtain⟨r,hr,hc⟩:=indexAddr_run (k:=k) (ev_cr hf hg hu) h;exact⟨r,by simp only[Sem.run_bind,hk',hr,Result.andThen_ok];rfl,hc⟩
 |index t x ix=>
  simp only[pureA,ho]at h;obtain⟨u,hu,h⟩:=R.bind_ok h;obtain⟨i,hi,h⟩:=R.bind_ok h
  have hcu:=ev_cr hf hg hu
  have hci:=ev_cr hf hg hi
  split at h
  ·obtain⟨v,hv⟩: ∃v,a.eval x=v:=⟨_,rfl⟩
   obtain⟨v2,hv2⟩: ∃v,a.eval ix=v:=⟨_,rfl⟩;rw[hv]at hcu;rw[hv2]at hci;cases hcu;cases hci;obtain⟨r,hr,h⟩:=Option.bind_eq_some_iff.1 (lift_ok h);exact⟨r,by simp only[Sem.run_bind,hv,hv2,pureRun_run hr w,Result.andThen_ok];rfl,ofV_cr h⟩
  ·rename_i cs k n
   obtain⟨d,hd,h⟩:=R.bind_ok h;split at h
   ·obtain⟨s,hs,h⟩:=R.bind_ok h
    split at h
    ·rename_i hc
     have e2:=toV_eq (by rfl) hci
     obtain⟨vs,hvs,hcs⟩:=hcu.agg_inv;obtain⟨v,hv,hcv⟩:=partA_cr h hcs;exact⟨v,by simp[Instr.index,e2,hvs,asIntOf,run_under hd,hc.1,hc.2,run_size hs,hv],hcv⟩
    ·cases h
   ·cases h
  ·cases h
 |extract x i=>
  simp only[pureA,ho]at h;obtain⟨u,hu,h⟩:=R.bind_ok h
  have hc:=ev_cr hf hg hu
  split at h
  ·obtain⟨cs,hcs,hcr⟩:=hc.tup_inv
   obtain⟨v,hv,hcv⟩:=hcr.get (lift_ok h);rw[Array.getElem?_toList]at hv;exact⟨v,by simp[hcs,Instr.extract,hv],hcv⟩
  ·cases h
 |call c=>
  obtain⟨callee,args,ats⟩:=c
  cases callee with
  |builtin b=>
   simp only[pureA,ho]at h;obtain⟨vs,hvs,h⟩:=R.bind_ok h
   have hc:=evs_cr hf hg hvs
   have one: ∀{y:AV},vs= [y]→ ∃v,args.map a.eval= #[v]∧CR F ρ w v y:=by
    intro y hy;subst hy
    cases hv:args.toList.map a.eval with
    |nil=>rw [hv]at hc;have:=hc.1;simp at this
    |cons v rest=>
     rw[hv]at hc
     obtain rfl:rest= []:=by have:=hc.1;simpa using this
     exact⟨v,map_toArray1 hv,hc.head⟩
   split at h
   ·obtain⟨v,hv,hcv⟩:=one rfl
    obtain⟨t,ht,h⟩:=R.bind_ok h;obtain⟨d,hd,h⟩:=R.bind_ok h
    have ht:=lift_ok ht
    have e1:=run_under hd w
    split at h
    ·cases hcv
     cases h;exact⟨_,by simp[resolve,invoke,builtin,hv,Builtin.len_,ht,e1,goInt], .int _ _⟩
    ·cases h
   ·rename_i x _ _
    obtain⟨v,hv,hcv⟩:=one rfl;obtain⟨t,ht,h⟩:=R.bind_ok h;obtain⟨d,hd,h⟩:=R.bind_ok h
    have ht:=lift_ok ht
    have e1:=run_under hd w
    split at h
    ·obtain⟨n,hn,h⟩:=R.bind_ok h
     cases h
     obtain⟨b,c,hb⟩: ∃b c,v= .slice b n c:=by
      cases hcv<;>cases hn<;>first|exact⟨_,_,rfl⟩|(subst_vars;exact⟨_,_,rfl⟩)
     exact⟨_,by simp[resolve,invoke,builtin,hv,hb,Builtin.len_,ht,e1,goInt], .int _ _⟩
    ·cases h
   ·obtain⟨us,hus,h⟩:=R.bind_ok h
    have he:=toVs_eq (lift_ok hus) hc
    have:=lift_ok h
    cases hr:pureRun E.P (Builtin.min_ ats o.type us.toArray)with
    |none=>simp [hr]at this
    |some r=>
     simp[hr]at this;exact⟨r,by simp[resolve,invoke,builtin,map_toArray1 he,pureRun_run hr w],ofV_cr this⟩
   ·obtain⟨us,hus,h⟩:=R.bind_ok h
    have he:=toVs_eq (lift_ok hus) hc
    have:=lift_ok h
    cases hr:pureRun E.P (Builtin.max_ ats o.type us.toArray)with
    |none=>simp [hr]at this
    |some r=>
     simp[hr]at this;exact⟨r,by simp[resolve,invoke,builtin,map_toArray1 he,pureRun_run hr w],ofV_cr this⟩
   ·cases h
  |value f=>simp only[pureA,ho]at h;cases h
  |invoke r m=>simp only[pureA,ho]at h;cases h
 |_=>simp only[pureA,ho]at h;cases h
end
end Go.Proofs.YthnajefdiljneaaDoor.AM
namespace Go.Proofs.YthnajefdiljneaaDoor.AM
set_option linter.unusedSectionVars false
set_option linter.unusedVariables false
set_option linter.unusedSimpArgs false
section
variable {F:Area} {ρ:Rho} {w:World}
theorem loadVar_run{P:Program}{t:TypeId}{cs:List AV}{off:Nat}{y:AV}(h:partA P t cs off= .ok y){B base:Nat}{arr:Array Value}{e:TypeId}{fz:Nat×Nat}(hb:w.heap[B]?=some (.cells arr e fz))
  (hc: ∀j z,cs[j]?=some z→ ∃v,arr[base+j]?=some v∧CR F ρ w v z):
  ∃v,(loadVar t ⟨B,base+off,none⟩).run P w= .ok v w∧CR F ρ w v y:=by
 have hcell: ∀j,w.cell? ⟨B,j,none⟩=arr[j]?:=fun j=>by simp[World.cell?,hb]
 obtain⟨b,hb',h⟩:=R.bind_ok h;unfold loadVar;rw[Sem.run_bind,run_isAgg hb',Result.andThen_ok]
 cases b with
 |true=>
  simp only[if_true]at h ⊢
  obtain⟨s,hs,h⟩:=R.bind_ok h
  split at h<;>cases h
  rename_i hle
  have hget: ∀j,j<s→ ∃v z,arr[base+off+j]?=some v∧cs[off+j]?=some z∧CR F ρ w v z:=fun j hj=>by
   obtain⟨z,hz⟩: ∃z,cs[off+j]?=some z:=⟨_,List.getElem?_eq_getElem (by omega)⟩;obtain⟨v,hv,hcr⟩:=hc _ z hz;exact⟨v,z,by rw[Nat.add_assoc];exact hv,hz,hcr⟩
  have hl:=run_loadCells (P:=P) w ⟨B,base+off,none⟩ s (fun j=>arr.getD (base+off+j) Go.undef) (fun j hj=>by
   obtain⟨v,z,hv,_⟩:=hget j hj
   rw[add0,hcell];simp[Array.getD_eq_getD_getElem?,hv])
  refine⟨_,by simp[run_size hs,hl];rfl, .agg_of ⟨by simp;omega,fun j v z hv hz=>?_⟩⟩;simp only[List.getElem?_map]at hv
  have hj:j<s:=by
   have:=lt_of_getl hz;simp at this;omega
  rw[List.getElem?_range hj]at hv;rw[List.getElem?_take,if_pos hj,List.getElem?_drop]at hz;obtain⟨v',z',hv',hz',hcr⟩:=hget j hj;rw[hz]at hz';cases hz';simp[Array.getD_eq_getD_getElem?,hv']at hv;subst hv;exact hcr
 |false=>
  simp only[Bool.false_eq_true,if_false]at h ⊢
  obtain⟨v,hv,hcr⟩:=hc _ _ (lift_ok h);exact⟨v,by rw[run_load,hcell,hv],hcr⟩
theorem CRs.cell{vs:Array Value}{l:List AV}(h:CRs F ρ w vs.toList l): ∀j z,l[j]?=some z→ ∃v,vs[0+j]?=some v∧CR F ρ w v z:=fun j z hz=>by
 obtain⟨v,hv,hc⟩:=h.get hz;rw[Array.getElem?_toList]at hv;exact⟨v,by rw[Nat.zero_add];exact hv,hc⟩
theorem Elems.cell{cs:Array Value}{o sz:Nat}{l:List AV}(h:Elems F ρ w cs o sz l){i:Nat}{x:AV}(hx:l[i]?=some x): ∀j z,x.cells[j]?=some z→ ∃v,cs[o+i*sz+j]?=some v∧CR F ρ w v z:=fun j z hz=>by
 have hj:=lt_of_getl hz
 rw[h.1 x (List.mem_of_getElem? hx)]at hj
 have hf:=flat_get h.1 hx hj
 rw[hz]at hf;obtain⟨v,hv,hc⟩:=h.2.get hf;refine⟨v,?_,hc⟩;rw[List.getElem?_take]at hv;split at hv
 ·rw[List.getElem?_drop,Array.getElem?_toList,←Nat.add_assoc]at hv;exact hv
 ·cases hv
variable {G:Nat→Option (List AV)} {A:Area} {g:View}
theorem loadA_run{P:Program}{h:H}{t:TypeId}{p y:AV}(hl:loadA P h t p= .ok y)(hr:HR G A ρ w g)(hd: ∀b,depOf p=some b→g b=h[b]?){v:Value}(hc:CR (Forb A ρ g) ρ w v p):
  ∃r,(Instr.loadAt t v).run P w= .ok r w∧CR (Forb A ρ g) ρ w r y:=by
 cases hc with
 | @ptr b B off hb0=>
   simp only[loadA]at hl;split at hl
   ·rename_i cs hcs
    obtain⟨B',k,h1,_,h2⟩:=hr.blk b _ ((hd b rfl).trans hcs) nofun;rw[hb0]at h1;cases h1;obtain⟨_,vs,e,fz,h3,_,h5⟩:=h2;obtain⟨r,hr',hcr⟩:=loadVar_run hl h3 (base:=0) h5.cell;rw[Nat.zero_add]at hr';exact⟨r,by simp[Instr.loadAt,Instr.sureAddr,hr'],hcr⟩
   ·cases hl
 | @eptr b B i sz off o hb0 ho=>
   simp only[loadA]at hl;split at hl
   ·rename_i sz' l hcs
    split at hl
    ·rename_i x hx
     split at hl
     ·rename_i hsz
      obtain⟨B',k,h1,_,h2⟩:=hr.blk b _ ((hd b rfl).trans hcs) nofun;rw[hb0]at h1;cases h1;obtain⟨_,vs,e,fz,h3,_,_,h5⟩:=h2;subst hsz;obtain⟨r,hr',hcr⟩:=loadVar_run hl h3 (base:=0+i*sz) (h5.cell hx);rw[Nat.zero_add,←ho]at hr';exact⟨r,by simp[Instr.loadAt,Instr.sureAddr,hr'],hcr⟩
     ·cases hl
    ·cases hl
   ·cases hl
 | @fp B base off o cs e fz l hb hF vs h1 h2 ho=>
   subst ho;obtain⟨r,hr',hcr⟩:=loadVar_run (F:=Forb A ρ g) (ρ:=ρ) hl hb (base:=base) (fun j z hz=>⟨vs j,h1 j z hz,h2 j z hz⟩);exact⟨r,by simp[Instr.loadAt,Instr.sureAddr,hr'],hcr⟩
 |_=>cases hl
theorem leaf_cells{y:AV}(h:y.leaf=true):y.cells= [y]:=by cases y<;>simp [AV.leaf]at h<;>rfl
theorem flat_leaf{l:List AV}(h: ∀y,y∈l→y.leaf=true):flat l=l:=by
 induction l with
 |nil=>rfl
 |cons y l ih=>
  have:=ih (fun z hz=>h z (List.mem_cons_of_mem _ hz));show y.cells++flat l=_;rw[leaf_cells (h y (List.mem_cons_self ..)),this];rfl
theorem elemsA_run{h:H}{x:AV}{l:List AV}(he:elemsA h x= .ok l)(hr:HR G A ρ w g)(hd: ∀b,depOf x=some b→g b=h[b]?){v:Value}(hc:CR (Forb A ρ g) ρ w v x){s:Nat}(hs:szA x s=true):
  (∀y,y∈l→y.cells.length=s)∧((l= []∧ ∃b,v= .slice b 0 0)∨ ∃B o c cs e fz,v= .slice (some ⟨B,o,none⟩) l.length c∧l.length≤c∧w.heap[B]?=some (.cells cs e fz)∧(0<l.length→Elems (Forb A ρ g) ρ w cs o s l)):=by
 cases hc with
 |nils=>cases he;exact⟨fun y hy=>by simp at hy, .inl ⟨rfl,_,rfl⟩⟩
 |lst0=>cases he;exact⟨fun y hy=>by simp at hy, .inl ⟨rfl,_,rfl⟩⟩
 | @lst B o n c sz cs e fz ls tl hb hn hsz hF vs g1 g2 hl hr' hc' ht=>
   have hcr:CR (Forb A ρ g) ρ w (.slice (some ⟨B,o,none⟩) n c) (.lst sz ls tl):= .lst hb hn hsz hF vs g1 g2 hl hr' hc' ht;cases he
   have hss:sz=s:=by simpa [szA]using hs
   subst hss;obtain⟨B',o',c',cs',e',fz',heq,hb',_,hel,hlc,_⟩:=CR.lst_parts hb hn hsz hF vs g1 g2 hl hr' hc' ht;cases heq;exact⟨hsz, .inr ⟨_,_,_,cs',e',fz',rfl,hlc,hb',fun _=>hel⟩⟩
 | @sl b B o off len sz c clip cs e fz hb0 hb hr' hl hc' ho=>
   have hss:sz=s:=by simpa [szA]using hs
   subst hss;simp only[elemsA]at he;split at he
   ·rename_i sz' ls hls
    split at he
    ·rename_i hcond
     cases he;obtain⟨rfl⟩:=hcond.2;obtain⟨B',k,h1,_,h2⟩:=hr.blk b _ ((hd b rfl).trans hls) nofun;rw[hb0]at h1;cases h1;obtain⟨_,vs,e',fz',h3,_,_,h5⟩:=h2
     have hlen:((ls.drop off).take len).length=len:=by simp;omega
     refine⟨fun y hy=>h5.1 y (List.mem_of_mem_drop (List.mem_of_mem_take hy)), .inr ⟨B,o,c,vs,e',fz',by rw[hlen],by omega,h3,fun hpos=>?_⟩⟩;have:=h5.cut off len;rw[hlen]at hpos
     rcases ho with h'|h'
     ·omega
     ·rw[h'];simpa using this
    ·cases he
   ·cases he
 | @vsl b B o off len c clip hb0 hl hc' ho=>
   have hss:s=1:=by simpa [szA]using hs
   subst hss;simp only[elemsA]at he;split at he
   ·rename_i ls hls
    split at he
    ·rename_i hcond
     cases he;obtain⟨B',k,h1,_,h2⟩:=hr.blk b _ ((hd b rfl).trans hls) nofun;rw[hb0]at h1;cases h1;obtain⟨_,vs,e',fz',h3,_,h5⟩:=h2
     have hlen:((ls.drop off).take len).length=len:=by simp;omega
     have hlf: ∀y,y∈(ls.drop off).take len→y.leaf=true:=by simpa [List.all_eq_true]using hcond.2
     refine⟨fun y hy=>by rw[leaf_cells (hlf y hy)];rfl, .inr ⟨B,o,c,vs,e',fz',by rw[hlen],by omega,h3,fun hpos=>⟨fun y hy=>by rw[leaf_cells (hlf y hy)];rfl,?_⟩⟩⟩;rw[hlen]at hpos
     have h6:o=off:=by rcases ho with h'|h'<;>omega
     rw[flat_leaf hlf,hlen,Nat.mul_one,h6];exact(h5.drop off).take len
    ·cases he
   ·cases he
 |_=>cases he
theorem bytes_loop{P:Program}(body:Value→ByteArray→Sem (ForInStep ByteArray))(hb: ∀n s,body (.int .u8 n) s=pure (.yield (s.push (UInt8.ofNat n.toNat)))): ∀{vs:List Value} {l:List AV} {bs:List UInt8} (s:ByteArray),toBytes l= .ok bs→CRs F ρ w vs l→
  (forIn vs s body).run P w= .ok ⟨s.data++bs.toArray⟩ w
 |vs,[],bs,s,h,hc=>by
  obtain rfl:vs= []:=List.eq_nil_of_length_eq_zero hc.1;cases h;simp
 |vs,y::l,bs,s,h,hc=>by
  cases vs with
  |nil=>have:=hc.1;simp at this
  |cons v vs=>
   have h0:=hc.head
   unfold toBytes at h;split at h
   ·rename_i heq;cases heq
   ·rename_i n l' heq
    cases heq;obtain⟨r,hr,h⟩:=R.bind_ok h;cases h;cases h0;have ih:=bytes_loop (P:=P) body hb (s.push (UInt8.ofNat n.toNat)) hr hc.tail;rw[List.forIn_cons,hb];simp only[Sem.run_bind,Sem.run_pure,Result.andThen_ok,ih]
    congr 2
    apply Array.ext';simp[ByteArray.push]
   ·cases h
theorem cells_at{cs:Array Value}{o:Nat}{l:List AV}(h:CRs F ρ w ((cs.toList.drop o).take l.length) l){B:Nat}{e:TypeId}{fz:Nat×Nat}(hb:w.heap[B]?=some (.cells cs e fz)){P:Program}:
  (loadCells ⟨B,o,none⟩ l.length).run P w= .ok ((cs.toList.drop o).take l.length).toArray w:=by
 have hl:((cs.toList.drop o).take l.length).length=l.length:=h.1
 have:=run_loadCells_list (P:=P) w ⟨B,o,none⟩ ((cs.toList.drop o).take l.length) (fun j v hv=>by
  rw[add0];rw[List.getElem?_take]at hv;split at hv
  ·rw[List.getElem?_drop,Array.getElem?_toList]at hv
   simp[World.cell?,hb,hv]
  ·cases hv)
 rw[hl]at this;exact this
theorem keyAF{P:Program}: ∀n,
  (∀t x,keyA P n t x=true→ ∀D,n≤D→ ∀(F:Area) (ρ:Rho) (w:World) (em:Bool) v,CR F ρ w v x→(Instr.checkKey em D t v).run P w= .ok () w)∧
  (∀fs cs,keyF P n fs cs=true→ ∀D,n≤D→ ∀(F:Area) (ρ:Rho) (w:World) (em:Bool) (vs:Array Value),CRs F ρ w vs.toList cs→
   (forIn fs PUnit.unit (fun f _=>do
    if f.name≠ "_" then do Instr.checkKey em D f.type (←part f.type vs f.offset)
    pure (.yield PUnit.unit):Field→PUnit→Sem (ForInStep PUnit))).run P w= .ok PUnit.unit w):=by
 intro n
 induction n with
 |zero=>exact⟨fun t x h=>by simp[keyA]at h,fun fs cs h=>by simp[keyF]at h⟩
 |succ n ih=>
  refine⟨fun t x h D hD F ρ w em v hc=>?_,fun fs cs h D hD F ρ w em vs hc=>?_⟩
  ·obtain⟨D,rfl⟩: ∃d,D=d+1:=⟨D-1,by omega⟩
   unfold keyA at h;split at h
   ·rename_i hd;simp[Instr.checkKey,run_underlying hd]
   ·rename_i hd;simp[Instr.checkKey,run_underlying hd]
   ·rename_i hd;simp[Instr.checkKey,run_underlying hd]
   ·rename_i fs cs hd
    obtain⟨vs,rfl,hcs⟩:=hc.agg_inv;have:=ih.2 _ _ h D (by omega) F ρ w em vs hcs;simp only[Instr.checkKey,Sem.run_bind,run_underlying hd,Result.andThen_ok];rw[←Array.forIn_toList];exact(congrArg (fun r=>Result.andThen r (fun _ w'=>Sem.run P (pure ()) w')) this).trans rfl
   ·cases h
  ·cases fs with
   |nil=>simp
   |cons f fs=>
    unfold keyF at h;split at h
    ·rename_i v hv
     simp only[Bool.and_eq_true]at h;obtain⟨u,hu,hcu⟩:=partA_cr hv hc
     have h1:=ih.1 _ _ h.1 D (by omega) F ρ w em u hcu
     have h2:=ih.2 _ _ h.2 D (by omega) F ρ w em vs hc
     simp only[List.forIn_cons,Sem.run_bind,Sem.run_ite,hu,h1,Result.andThen_ok,Sem.run_pure]
     split<;>simp only[Result.andThen_ok]<;>exact h2
    ·cases h
end
end Go.Proofs.YthnajefdiljneaaDoor.AM
namespace Go.Proofs.YthnajefdiljneaaDoor.AM
set_option linter.unusedSectionVars false
set_option linter.unusedVariables false
set_option linter.unusedSimpArgs false
section
variable {F:Area} {ρ:Rho} {w:World}
def EntsR(F:Area)(ρ:Rho)(w:World)(ents:List MapEntry)(es:List (AV×AV)):Prop:=
 ents.length=es.length∧ ∀(i:Nat) (e:MapEntry) (x:AV×AV),ents[i]?=some e→es[i]?=some x→CR F ρ w e.key x.1∧CR F ρ w e.val x.2
theorem EntsR.head{e:MapEntry}{ents:List MapEntry}{x:AV×AV}{es:List (AV×AV)}(h:EntsR F ρ w (e::ents) (x::es)):CR F ρ w e.key x.1∧CR F ρ w e.val x.2:=h.2 0 e x rfl rfl
theorem EntsR.tail{e:MapEntry}{ents:List MapEntry}{x:AV×AV}{es:List (AV×AV)}(h:EntsR F ρ w (e::ents) (x::es)):EntsR F ρ w ents es:=
 ⟨by simpa using h.1,fun i e x h1 h2=>h.2 (i+1) e x (by simpa using h1) (by simpa using h2)⟩
def FoundR(F:Area)(ρ:Rho)(w:World)(n:Nat):Option (Nat×Value)→Option (Nat×AV)→Prop
 |none,none=>True
 |some (i,v),some (j,y)=>i=n+j∧CR F ρ w v y
 |_,_=>False
theorem findNow_run{P:Program}{S:TypeId→Bool}{kt:TypeId}{d:TypeDesc}(hd:P.underlying kt=some d)(hs: ∀fs,d≠ .struct fs){k:AV}{vk:Value}(hk:CR F ρ w vk k):
  ∀{es:List (AV×AV)} {ents:List MapEntry} {r:Option (Nat×AV)} (n:Nat),find (eqT P S 99 kt) k es=some r→EntsR F ρ w ents es→
  ∃r',Instr.findNow d vk ents n=some r'∧FoundR F ρ w n r' r
 | [],ents,r,n,h,he=>by
   obtain rfl:ents= []:=List.eq_nil_of_length_eq_zero he.1;cases h;exact⟨none,rfl,trivial⟩
 |(a,y)::es,ents,r,n,h,he=>by
  cases ents with
  |nil=>have:=he.1;simp at this
  |cons e ents=>
   have h0:=he.head
   simp only[find]at h
   have key: ∀b,eqT P S 99 kt k a=some b→Instr.sameNow d vk e.key=some b:=by
    intro b hb;unfold eqT at hb;split at hb
    ·rename_i hd'
     rw[hd]at hd';cases hd'
     have e1:=toV_eq (by rfl) hk
     have e2:=toV_eq (by rfl) h0.1
     cases hb;simp[Instr.sameNow,e1,e2]
    ·rename_i hd'
     rw[hd]at hd';cases hd'
     have e1:=toV_eq (by rfl) hk
     have e2:=toV_eq (by rfl) h0.1
     split at hb<;>cases hb
     rename_i hkk;simp[Instr.sameNow,e1,e2,hkk]
    ·rename_i hd'
     rw[hd]at hd';cases hd'
     have e1:=toV_eq (by rfl) hk
     have e2:=toV_eq (by rfl) h0.1
     cases hb;simp[Instr.sameNow,e1,e2]
    ·rename_i hd'
     rw[hd]at hd';cases hd';exact absurd rfl (hs _)
    ·cases hb
   split at h
   ·rename_i hb
    cases h;exact⟨some (n,e.val),by simp[Instr.findNow,key _ hb],by exact⟨by omega,h0.2⟩⟩
   ·rename_i hb
    cases hf:find (eqT P S 99 kt) k es with
    |none=>simp [hf]at h
    |some r0=>
     simp[hf]at h;subst h;obtain⟨r',h1,h2⟩:=findNow_run hd hs hk (n+1) hf he.tail;refine⟨r',by simp[Instr.findNow,key _ hb,h1],?_⟩
     cases r'<;>cases r0<;>simp only[FoundR,Option.map_none,Option.map_some]at h2 ⊢
     exact⟨by omega,h2.2⟩
   ·cases h
theorem findAsking_run{P:Program}{S:TypeId→Bool}(hS:Smet P S){kt:TypeId}{k:AV}{vk:Value}(hk:CR F ρ w vk k):
  ∀{es:List (AV×AV)} {ents:List MapEntry} {r:Option (Nat×AV)} (n:Nat),find (eqT P S 99 kt) k es=some r→EntsR F ρ w ents es→
  ∃r',(Instr.findAsking kt vk ents n).run P w= .ok r' w∧FoundR F ρ w n r' r
 | [],ents,r,n,h,he=>by
   obtain rfl:ents= []:=List.eq_nil_of_length_eq_zero he.1;cases h;exact⟨none,rfl,trivial⟩
 |(a,y)::es,ents,r,n,h,he=>by
  cases ents with
  |nil=>have:=he.1;simp at this
  |cons e ents=>
   have h0:=he.head
   simp only[find]at h;split at h
   ·rename_i hb
    cases h;exact⟨some (n,e.val),by simp[Instr.findAsking,eqT_run hS hb hk h0.1],by exact⟨by omega,h0.2⟩⟩
   ·rename_i hb
    cases hf:find (eqT P S 99 kt) k es with
    |none=>simp [hf]at h
    |some r0=>
     simp[hf]at h;subst h;obtain⟨r',h1,h2⟩:=findAsking_run hS hk (n+1) hf he.tail;refine⟨r',by simp[Instr.findAsking,eqT_run hS hb hk h0.1,h1],?_⟩
     cases r'<;>cases r0<;>simp only[FoundR,Option.map_none,Option.map_some]at h2 ⊢
     exact⟨by omega,h2.2⟩
   ·cases h
theorem findKey_run{P:Program}{S:TypeId→Bool}(hS:Smet P S){kt:TypeId}{k:AV}(hka:keyA P 99 kt k=true){vk:Value}(hk:CR F ρ w vk k){es:List (AV×AV)}{ents:List MapEntry}{r:Option (Nat×AV)}
  (h:find (eqT P S 99 kt) k es=some r) (he:EntsR F ρ w ents es): ∃r',(Instr.findKey kt vk ents).run P w= .ok r' w∧FoundR F ρ w 0 r' r:=by
 have hdd: ∃d,P.underlying kt=some d∧((∀fs,d≠ .struct fs)∨ ∃fs,d= .struct fs):=by
  unfold keyA at hka;split at hka
  ·rename_i hd;exact⟨_,hd, .inl (fun fs h=>by cases h)⟩
  ·rename_i hd;exact⟨_,hd, .inl (fun fs h=>by cases h)⟩
  ·rename_i hd;exact⟨_,hd, .inl (fun fs h=>by cases h)⟩
  ·rename_i hd;exact⟨_,hd, .inr ⟨_,rfl⟩⟩
  ·cases hka
 obtain⟨d,hd,hcase⟩:=hdd;unfold Instr.findKey;rw[Sem.run_bind,run_underlying hd,Result.andThen_ok]
 rcases hcase with hs|⟨fs,rfl⟩
 ·obtain⟨r',h1,h2⟩:=findNow_run hd hs hk 0 h he
  exact⟨r',by rw[h1];rfl,h2⟩
 ·cases ents with
  |nil=>
   obtain rfl:es= []:=by have:=he.1;cases es<;>simp_all
   cases h;exact⟨none,rfl,trivial⟩
  |cons e ents=>
   obtain⟨r',h1,h2⟩:=findAsking_run hS hk 0 h he;refine⟨r',?_,h2⟩
   have:Instr.findNow (.struct fs) vk (e::ents) 0=none:=by
    have:Instr.sameNow (.struct fs) vk e.key=none:=by unfold Instr.sameNow;split<;>simp_all
    simp[Instr.findNow,this]
   rw[this];exact h1
variable {G:Nat→Option (List AV)} {A:Area} {g:View}
theorem mapOf_run{P:Program}{h:H}{m:AV}{es:List (AV×AV)}(hm:mapOf h m= .ok es)(hr:HR G A ρ w g)(hd: ∀b,depOf m=some b→g b=h[b]?){v:Value}(hc:CR (Forb A ρ g) ρ w v m):
  (v= .map none∧es= [])∨ ∃B ents clock,v= .map (some B)∧w.heap[B]?=some (.map ents clock)∧EntsR (Forb A ρ g) ρ w ents.toList es:=by
 cases hc with
 |nilm=>cases hm;exact .inl ⟨rfl,rfl⟩
 | @map b B hb0=>
   simp only[mapOf]at hm;split at hm
   ·rename_i es' hes
    cases hm;obtain⟨B',k,h1,_,h2⟩:=hr.blk b _ ((hd b rfl).trans hes) nofun;rw[hb0]at h1;cases h1;obtain⟨_,ents,clock,h3,h4,h5⟩:=h2;exact .inr ⟨B,ents,clock,rfl,h3,by simpa using h4,fun i e x he hx=>h5 i e x (by rw[Array.getElem?_toList]at he;exact he) hx⟩
   ·cases hm
 |_=>cases hm
variable {E:Env} {a:Act} {τ:Fr}
theorem toBytes_leaf: ∀{l:List AV} {bs:List UInt8},toBytes l= .ok bs→ ∀y,y∈l→y.leaf=true
 | [],bs,h,y,hy=>by simp at hy
 |x::l,bs,h,y,hy=>by
  unfold toBytes at h;split at h
  ·rename_i heq;cases heq
  ·rename_i n l' heq
   cases heq;obtain⟨r,hr,h⟩:=R.bind_ok h
   rcases List.mem_cons.1 hy with rfl|hy
   ·rfl
   ·exact toBytes_leaf hr y hy
  ·cases h
theorem readA_run(hS:Smet E.P E.S)(hr:HR E.G A ρ w g)(hf:FRel (Forb A ρ g) ρ w a.tmps τ){h:H}{o:Oper}{y:AV}(hy:readA E τ h o= .ok y)(hd: ∀b,readDep E τ o=some b→g b=h[b]?):
  ∃v,(execOp a.eval o).run E.P w= .ok (.value v) w∧CR (Forb A ρ g) ρ w v y:=by
 have hg:Glob E (Forb A ρ g) ρ w:=hr.glob;unfold execOp
 cases ho:o.op with
 |load t x=>
  simp only[readA,ho]at hy;obtain⟨p,hp,hy⟩:=R.bind_ok hy;obtain⟨r,hr',hc⟩:=loadA_run hy hr (fun b hb=>hd b (by simp[readDep,ho,hp,hb])) (ev_cr hf hg hp);exact⟨r,by simp only[Sem.run_bind,hr',Result.andThen_ok];rfl,hc⟩
 |convert src dst x=>
  simp only[readA,ho]at hy;obtain⟨p,hp,hy⟩:=R.bind_ok hy;obtain⟨us,hus,hy⟩:=R.bind_ok hy;obtain⟨ud,hud,hy⟩:=R.bind_ok hy
  have e1:=run_under hus w
  have e2:=run_under hud w
  clear hus hud;split at hy
  ·rename_i e
   obtain⟨ue,hue,hy⟩:=R.bind_ok hy
   have e3:=run_under hue w
   split at hy
   ·obtain⟨s,hs,hy⟩:=R.bind_ok hy
    split at hy
    ·rename_i hcond
     simp only[Bool.and_eq_true,beq_iff_eq]at hcond;obtain⟨l,hl,hy⟩:=R.bind_ok hy;obtain⟨bs,hbs,hy⟩:=R.bind_ok hy;cases hy;obtain⟨hsz,hcase⟩:=elemsA_run hl hr (fun b hb=>hd b (by simp[readDep,ho,hp,hb])) (ev_cr hf hg hp) hcond.1
     rcases hcase with⟨rfl,b,hv⟩|⟨B,o',c,cs,e',fz,hv,hlc,hb,hel⟩
     ·cases hbs
      refine⟨.string ByteArray.empty,?_, .str _⟩
      cases b with
      |none=>simp [hv,convert,e1,e2,e3,Conv.bytesToString]
      |some a=>simp [hv,convert,e1,e2,e3,Conv.bytesToString,loadCells,loadCellsFrom]
     ·rcases Nat.eq_zero_or_pos l.length with h0|h0
      ·obtain rfl:=List.eq_nil_of_length_eq_zero h0
       cases hbs;have:=cells_at (P:=E.P) (F:=Forb A ρ g) (ρ:=ρ) (cs:=cs) (o:=o') (l:= []) ⟨by simp,fun j v y h=>by simp at h⟩ hb;refine⟨.string ByteArray.empty,?_, .str _⟩;simp only[Sem.run_bind,hv,convert,e1,e2,e3,Conv.bytesToString,Result.andThen_ok];simp only[List.length_nil]at this;simp[this]
      ·have hel:=hel h0
       rw[hcond.2]at hel;have hfl:flat l=l:=flat_leaf (toBytes_leaf hbs)
       have h2:=hel.2
       rw[hfl,Nat.mul_one]at h2;have hld:=cells_at (P:=E.P) h2 hb;refine⟨.string ⟨bs.toArray⟩,?_, .str _⟩;simp only[Sem.run_bind,hv,convert,e1,e2,e3,Conv.bytesToString,Result.andThen_ok,hld];rw[List.forIn_toArray,bytes_loop (P:=E.P) _ (fun _ _=>rfl) ByteArray.empty hbs h2];simp
    ·cases hy
   ·cases hy
  ·cases hy
 |lookup t m k ok=>
  simp only[readA,ho]at hy;obtain⟨am,hm,hy⟩:=R.bind_ok hy;obtain⟨ak,hk,hy⟩:=R.bind_ok hy;obtain⟨d,hd',hy⟩:=R.bind_ok hy
  have e1:=run_under hd' w
  split at hy
  ·rename_i kt e
   obtain⟨es,hes,hy⟩:=R.bind_ok hy;obtain⟨z,hz,hy⟩:=R.bind_ok hy;split at hy
   ·cases hy
   ·rename_i hka
    have hka:keyA E.P 99 kt ak=true:=by simpa using hka
    obtain⟨r,hrr,hy⟩:=R.bind_ok hy
    have hck:=ev_cr hf hg hk
    obtain⟨zv,hzr,hzo⟩:=run_zero hz w
    have hce: ∀em,(Instr.checkKey em 10000 kt (a.eval k)).run E.P w= .ok () w:=fun em=>(keyAF 99).1 kt ak hka 10000 (by omega) _ _ w em _ hck
    have fin: ∀(ents:Array MapEntry),EntsR (Forb A ρ g) ρ w ents.toList es→ ∃r',(Instr.findKey kt (a.eval k) ents.toList).run E.P w= .ok r' w∧FoundR (Forb A ρ g) ρ w 0 r' r:=
     fun ents he=>findKey_run hS hka hck (lift_ok hrr) he
    have this: ∃v,(Instr.lookup t (a.eval m) (a.eval k) ok).run E.P w= .ok v w∧CR (Forb A ρ g) ρ w v y:=by
     unfold Instr.lookup;rw[Sem.run_bind,e1,Result.andThen_ok]
     have done: ∀r',FoundR (Forb A ρ g) ρ w 0 r' r→ ∃v,CR (Forb A ρ g) ρ w v y∧v=(match r' with|some (_,v)=>(if ok=true then Value.tuple #[v,Value.bool true]else v)|none=>(if ok=true then Value.tuple #[zv,Value.bool false]else zv)):=by
      intro r' hfd;refine⟨_,?_,rfl⟩
      cases r'<;>cases r<;>simp only[FoundR]at hfd
      ·split at hy<;>rename_i hok<;>cases hy
       ·rw[if_pos hok];exact .tup_of (.cons (ofV_cr hzo) (.cons (.bool false) .nil))
       ·rw[if_neg hok];exact ofV_cr hzo
      ·rename_i p q
       obtain⟨i,v⟩:=p;obtain⟨j,u⟩:=q
       split at hy<;>rename_i hok<;>cases hy
       ·simp only[if_pos hok];exact .tup_of (.cons hfd.2 (.cons (.bool true) .nil))
       ·simp only[if_neg hok];exact hfd.2
     rcases mapOf_run (P:=E.P) hes hr (fun b hb=>hd b (by simp[readDep,ho,hm,hb])) (ev_cr hf hg hm)with⟨hv,rfl⟩|⟨B,ents,clock,hv,hb,he⟩
     ·obtain⟨r',h1,h2⟩:=fin #[] ⟨rfl,fun i e x h=>by simp at h⟩
      obtain⟨v,h3,h4⟩:=done r' h2;refine⟨v,?_,h3⟩;simp only[hv,Sem.run_bind,Sem.run_pure,Result.andThen_ok,hce,h1]
      cases r' with
      |none=>simp [hzr,h4]
      |some p=>simp [h4]
     ·obtain⟨r',h1,h2⟩:=fin ents he
      obtain⟨v,h3,h4⟩:=done r' h2;refine⟨v,?_,h3⟩
      have hgo:(getObj B).run E.P w= .ok (.map ents clock) w:=by simp[getObj,Sem.run,hb]
      simp only[hv,Sem.run_bind,hgo,Sem.run_pure,Result.andThen_ok,hce,h1]
      cases r' with
      |none=>simp [hzr,h4]
      |some p=>simp [h4]
    obtain⟨v,h1,h2⟩:=this;exact⟨v,by simp only[Sem.run_bind,h1,Result.andThen_ok];rfl,h2⟩
  ·cases hy
 |call c=>
  obtain⟨callee,args,ats⟩:=c
  cases callee with
  |builtin b=>
   cases b<;>simp only[readA,ho]at hy<;>first|(cases hy;done)|skip
   obtain⟨vs,hvs,hy⟩:=R.bind_ok hy
   have hc:=evs_cr hf hg hvs
   split at hy
   ·rename_i x
    obtain⟨t,ht,hy⟩:=R.bind_ok hy;obtain⟨d,hdd,hy⟩:=R.bind_ok hy
    have ht:=lift_ok ht
    have e1:=run_under hdd w
    split at hy
    ·obtain⟨es,hes,hy⟩:=R.bind_ok hy
     cases hy
     cases hv:args.toList.map a.eval with
     |nil=>rw [hv]at hc;have:=hc.1;simp at this
     |cons v rest=>
      rw[hv]at hc
      obtain rfl:rest= []:=by have:=hc.1;simpa using this
      have hv':=map_toArray1 hv
      have hdep: ∀b,depOf x=some b→g b=h[b]?:=fun b hb=>hd b (by
       cases ha:args.toList with
       |nil=>rw [ha]at hv;simp at hv
       |cons z zs=>
        cases zs with
        |cons z' zs=>rw [ha]at hv;simp at hv
        |nil=>
         rw[ha]at hvs;obtain⟨u,hu,hvs⟩:=R.bind_ok hvs;cases hvs
         simp[readDep,ho,ha,hu,hb])
      rcases mapOf_run (P:=E.P) hes hr hdep hc.head with⟨rfl,rfl⟩|⟨B,ents,clock,rfl,hb,he⟩
      ·exact⟨_,by simp[resolve,invoke,builtin,hv',Builtin.len_,ht,e1,goInt], .int _ _⟩
      ·refine⟨.int .i64 ents.size,by simp[resolve,invoke,builtin,hv',Builtin.len_,ht,e1,goInt,getObj,Sem.run,hb],?_⟩
       have:=he.1;rw[Array.length_toList]at this;rw[this];exact .int _ _
    ·cases hy
   ·cases hy
  |value f=>simp only[readA,ho]at hy;cases hy
  |invoke r m=>simp only[readA,ho]at hy;cases hy
 |_=>simp only[readA,ho]at hy;cases hy
end
end Go.Proofs.YthnajefdiljneaaDoor.AM
end
