/- Texts of this claim, put together. -/
import Derived.Test.YthnajefdiljneaaDoorM5
import Derived.ChangeArms
import Derived.SizedLaws
import GoSem.ClaimJoined
section
-- SQUEEZED
/- The symbolic machine: the abstract machine's code run on trees whose leaves are terms; where an answer hangs on a term, both ways are gone. Definitions. -/
namespace Go.Proofs.YthnajefdiljneaaDoor.AM
set_option linter.unusedVariables false
set_option linter.unusedSimpArgs false
set_option linter.unusedSectionVars false
inductive T (α:Type) where
 |leaf (a:α)
 |fail
 |br (c:Bool) (t e:T α)
def T.bind{α β:Type}:T α→(α→T β)→T β
 | .leaf a,f=>f a
 | .fail,_=> .fail
 | .br c t e,f=> .br c (t.bind f) (e.bind f)
def T.run{α:Type}:T α→R α
 | .leaf a=> .ok a
 | .fail=> .no ""
 | .br c t e=>match c with
   |true=>t.run
   |false=>e.run
def R.t{α:Type}:R α→T α
 | .ok a=> .leaf a
 | .no _=> .fail
def mark(d:Nat)(c:Bool):Bool:=c
def chk{α:Type}(con:Option Nat)(c:Bool)(t:T α):T α:=match con with
 |none=>(match c with|true=>t|false=> .fail)
 |some d=> .br (mark d c) t .fail
def byteAt(s:ByteArray)(i:Nat):UInt8:=s.data.toList.getD i 0
def brc{α:Type}(con:Option Nat)(c:Bool)(t e:T α):T α:=match con with
 |none=>(match c with|true=>t|false=>e)
 |some d=> .br (mark d c) t e
structure SX where
 E:Env
 f:FuncId
 con:Nat→Bool
 split:Nat→Bool
 call:FuncId→List AV→H→T (AV×H)
 lit:FuncId→Bool:=fun _=>false
noncomputable def askL(E:Env)(g:FuncId)(vs:List AV)(v:AV):Bool:=by
 classical exact decide (E.C g vs=some v∧noF v=true)
def conOf(X:SX)(o:Oper):Option Nat:=match o.dst with
 |some d=>(match X.con d with|true=>none|false=>some d)
 |none=>some 0
def AV.toI:AV→Int
 | .int _ n=>n
 |_=>0
def AV.toS:AV→ByteArray
 | .str s=>s
 |_=> .empty
def AV.toB:AV→Bool
 | .bool b=>b
 |_=>false
def AV.toL:AV→List AV
 | .lst _ l _=>l
 |_=> []
def cellTs(P:Program):Nat→TypeId→List TypeId
 |0,_=> []
 |d+1,t=>match P.underlying t with
  |some (.struct fs)=>fs.toList.foldr (fun f acc=>cellTs P d f.type++acc) []
  |some (.array n e)=>(List.replicate n (cellTs P d e)).flatten
  |_=> [t]
def shape1(P:Program)(t:TypeId)(v:AV):AV:=match P.underlying t with
 |some (.int k)=> .int k v.toI
 |some .string=> .str v.toS
 |some .bool=> .bool v.toB
 |some (.slice e)=> .lst (P.cellsOf e) v.toL .open_
 |_=>v
def fits1(P:Program)(t:TypeId)(v:AV):Bool:=match P.underlying t with
 |some (.int k)=>(match v with| .int k' _=>k==k'|_=>false)
 |some .string=>(match v with| .str _=>true|_=>false)
 |some .bool=>(match v with| .bool _=>true|_=>false)
 |some (.slice e)=>(match v with| .lst sz _ .open_=>sz==P.cellsOf e|_=>false)
 |_=>true
def shapes(P:Program)(cs:List AV):Nat→List TypeId→List AV
 |_,[]=> []
 |k,t::ts=>shape1 P t (cs.getD k undef)::shapes P cs (k+1) ts
def fitss(P:Program)(cs:List AV):Nat→List TypeId→Bool
 |_,[]=>true
 |k,t::ts=>fits1 P t (cs.getD k undef)&&fitss P cs (k+1) ts
def shapeC(P:Program)(t:TypeId)(v:AV):List AV:=shapes P v.cells 0 (cellTs P 99 t)
def fitsC(P:Program)(t:TypeId)(v:AV):Bool:=v.cells.length==(cellTs P 99 t).length&&fitss P v.cells 0 (cellTs P 99 t)
def boundT(con:Option Nat):Option AV→Nat→T Nat
 |none,d=> .leaf d
 |some v,_=>(intA v).t.bind fun n=>chk con (decide (0≤n)) (.leaf n.toNat)
def cutT(con:Option Nat)(x:AV)(l h n:Nat)(cut:Bool):T AV:=
 match x with
 | .nils=> .leaf .nils
 | .lst sz xs tl=>(match cut,tl with
   |true,_=> .leaf (.lst sz ((xs.drop l).take (h-l)) .clip)
   |false, .open_=> .leaf (.lst sz ((xs.drop l).take (h-l)) .open_)
   |false,tl=>brc con (decide (h=n)) (.leaf (.lst sz ((xs.drop l).take (h-l)) tl)) (.leaf (.lst sz ((xs.drop l).take (h-l)) .open_)))
 |_=>(cutA x l h n cut).t
def sliceT(P:Program)(con:Option Nat)(t:TypeId)(x:AV)(lo hi mx:Option AV):T AV:=
 (under P t).t.bind fun
 | .string=>match x with
   | .str s=>(boundT con lo 0).bind fun l=>(boundT con hi s.size).bind fun h=>match mx with
     |none=>chk con (decide (l≤h)&&decide (h≤s.size)) (.leaf (.str (s.extract l h)))
     |some _=> .fail
   |_=> .fail
 | .slice e=>(size P e).t.bind fun sz=>(lenA x).t.bind fun n=>(boundT con lo 0).bind fun l=>(boundT con hi n).bind fun h=>(match mx with
   |none=>T.leaf h
   |some _=>boundT con mx h).bind fun m=>match mx,hi with
   |some _,none=> .fail
   |_,_=>match szA x sz with
    |true=>chk con (decide (l≤h)&&decide (h≤n)&&decide (m=h)) (cutT con x l h n mx.isSome)
    |false=> .fail
 |_=>(sliceA P t x lo hi mx).t
def indexT(P:Program)(con:Option Nat)(t:TypeId)(x:AV)(i:Int):T AV:=
 match con with
 |none=>(indexA P t x i).t
 |some q=>(under P t).t.bind fun
  | .slice e=>(size P e).t.bind fun s=>match szA x s with
    |true=>(match x with
     | .lst _ l _=> .br (mark q<|decide (0≤i)&&decide (i<l.length)&&fitsC P e (l.getD i.toNat undef)) (.leaf (.fp (shapeC P e (l.getD i.toNat undef)) 0)) .fail
     | .sl b off n sz _=> .br (mark q<|decide (0≤i)&&decide (i<n)) (.leaf (.eptr b (off+i.toNat) sz 0)) .fail
     | .vsl b off n _=> .br (mark q<|decide (0≤i)&&decide (i<n)) (.leaf (.ptr b (off+i.toNat))) .fail
     |_=> .fail)
    |false=> .fail
  | .array n e=>(size P e).t.bind fun s=>match x with
    | .ptr b off=> .br (mark q<|decide (0≤i)&&decide (i<n)) (.leaf (.ptr b (off+i.toNat*s))) .fail
    | .eptr b j sz off=> .br (mark q<|decide (0≤i)&&decide (i<n)) (.leaf (.eptr b j sz (off+i.toNat*s))) .fail
    |_=> .fail
  |_=> .fail
def binT(P:Program)(S:TypeId→Bool)(con:Option Nat)(op:BinOp)(t:TypeId)(x y:AV):T AV:=
 match x,y with
 | .int k a, .int k' b=>(match decide (k=k')with
   |true=>(match op with
    | .add=> .leaf (.int k (k.wrap (a+b)))
    | .sub=> .leaf (.int k (k.wrap (a-b)))
    | .mul=> .leaf (.int k (k.wrap (a*b)))
    | .quo=>chk con (!decide (b=0)) (.leaf (.int k (k.wrap (a.tdiv b))))
    | .rem=>chk con (!decide (b=0)) (.leaf (.int k (a.tmod b)))
    | .eql=> .leaf (.bool (decide (a=b)))
    | .neq=> .leaf (.bool (!decide (a=b)))
    | .lss=> .leaf (.bool (decide (a<b)))
    | .leq=> .leaf (.bool (decide (a≤b)))
    | .gtr=> .leaf (.bool (decide (b<a)))
    | .geq=> .leaf (.bool (decide (b≤a)))
    |_=>(binA P S op t x y).t)
   |false=>(binA P S op t x y).t)
 | .str a, .str b=>(match op with
   | .add=>chk con (decide (a.size+b.size≤9223372036854775807)) (.leaf (.str (a++b)))
   | .eql=> .leaf (.bool (decide (a=b)))
   | .neq=> .leaf (.bool (!decide (a=b)))
   | .lss=> .leaf (.bool (Op.bytesLess a.toList b.toList))
   |_=>(binA P S op t x y).t)
 |_,_=>(binA P S op t x y).t
def pureT(X:SX)(τ:Fr)(o:Oper):T AV:=
 let E:=X.E
 let con:=conOf X o
 match o.op with
 | .binOp op t x y _=>(ev E τ x).t.bind fun a=>(ev E τ y).t.bind fun b=>binT E.P E.S con op t a b
 | .unOp op _ x=>(ev E τ x).t.bind fun a=>match op,a with
   | .not, .bool b=> .leaf (.bool (!b))
   | .neg, .int k n=> .leaf (.int k (k.wrap (0-n)))
   |_,_=>(pureA E τ o).t
 | .slice t x lo hi mx=>(ev E τ x).t.bind fun a=>(evo E τ lo).t.bind fun lo=>(evo E τ hi).t.bind fun hi=>(evo E τ mx).t.bind fun mx=>sliceT E.P con t a lo hi mx
 | .indexAddr t x ix=>(ev E τ x).t.bind fun x=>(ev E τ ix).t.bind fun i=>(intA i).t.bind fun i=>indexT E.P con t x i
 | .index t x ix=>(match con with
   |none=>(pureA E τ o).t
   |some q=>(ev E τ x).t.bind fun x=>(ev E τ ix).t.bind fun i=>match x,i with
    | .str s, .int k n=>(under E.P t).t.bind fun
      | .string=> .br (mark q<|decide (0≤n)&&decide (n<s.size)) (.leaf (.int .u8 (byteAt s n.toNat).toNat)) .fail
      |_=> .fail
    |_,_=> .fail)
 |_=>(pureA E τ o).t
def isBytes(l:List AV):Bool:=l.all fun v=>match v with
 | .int .u8 _=>true
 |_=>false
def bytesOf(l:List AV):ByteArray:=⟨(l.map fun v=>UInt8.ofNat v.toI.toNat).toArray⟩
def aggB(P:Program)(t:TypeId):Bool:=match aggT P t with
 | .ok b=>b
 | .no _=>true
def findV(P:Program)(S:TypeId→Bool)(kt:TypeId)(k:AV)(es:List (AV×AV)):AV:=match find (eqT P S 99 kt) k es with
 |some (some (_,v))=>v
 |_=>undef
def findB(P:Program)(S:TypeId→Bool)(kt:TypeId)(k:AV)(es:List (AV×AV)):Bool:=match find (eqT P S 99 kt) k es with
 |some (some _)=>true
 |_=>false
def findS(P:Program)(S:TypeId→Bool)(kt:TypeId)(k:AV)(es:List (AV×AV)):Bool:=(find (eqT P S 99 kt) k es).isSome
def putM(P:Program)(S:TypeId→Bool)(kt:TypeId)(k v:AV)(es:List (AV×AV)):List (AV×AV):=match find (eqT P S 99 kt) k es with
 |some (some (i,_))=>es.set i (k,v)
 |_=>es++ [(k,v)]
def putOk(P:Program)(S:TypeId→Bool)(kt:TypeId)(k:AV)(es:List (AV×AV)):Bool:=match find (eqT P S 99 kt) k es with
 |some (some (i,_))=>(match es[i]? with|some e=>plainEq k e.1|none=>false)
 |some none=>true
 |none=>false
def readT(X:SX)(τ:Fr)(h:H)(o:Oper):T AV:=
 let E:=X.E
 let con:=conOf X o
 match con with
 |none=>(readA E τ h o).t
 |some q=>match o.op with
  | .load t a=>(ev E τ a).t.bind fun p=>(match p with
    | .eptr b i sz off=>(match h[b]? with
      |some (.arr sz' l)=>(match decide (sz=sz')with
       |true=>(aggT E.P t).t.bind fun
        |false=> .br (mark q<|decide (i<l.length)&&decide (off<(l.getD i undef).cells.length)&&fits1 E.P t ((l.getD i undef).cells.getD off undef)) (.leaf (shape1 E.P t ((l.getD i undef).cells.getD off undef))) .fail
        |true=>(size E.P t).t.bind fun s=>(match decide ((cellTs E.P 99 t).length=s)with
         |true=> .br (mark q<|decide (i<l.length)&&decide (off+s≤(l.getD i undef).cells.length)&&fitss E.P (l.getD i undef).cells off (cellTs E.P 99 t)) (.leaf (.agg (shapes E.P (l.getD i undef).cells off (cellTs E.P 99 t)))) .fail
         |false=> .fail)
       |false=> .fail)
      |_=> .fail)
    |_=>(readA E τ h o).t)
  | .convert src dst x=>(ev E τ x).t.bind fun a=>(under E.P src).t.bind fun us=>(under E.P dst).t.bind fun ud=>match us,ud with
    | .slice e, .string=>(under E.P e).t.bind fun
      | .int .u8=>(size E.P e).t.bind fun s=>(match szA a s&&s==1 with
        |true=>(elemsA h a).t.bind fun l=> .br (mark q<|isBytes l) (.leaf (.str (bytesOf l))) .fail
        |false=> .fail)
      |_=> .fail
    |_,_=> .fail
  | .lookup t m k ok=>(ev E τ m).t.bind fun m=>(ev E τ k).t.bind fun k=>(under E.P t).t.bind fun
    | .map kt e=>(mapOf h m).t.bind fun es=>(zero E.P e).t.bind fun z=>(match keyA E.P 99 kt k with
      |true=>(match ok with
       |true=>brc (some q) (findB E.P E.S kt k es) (chk (some q) (findS E.P E.S kt k es&&(!aggB E.P e&&fits1 E.P e (findV E.P E.S kt k es))) (.leaf (.tup [shape1 E.P e (findV E.P E.S kt k es), .bool true]))) (chk (some q) (findS E.P E.S kt k es) (.leaf (.tup [z, .bool false])))
       |false=>brc (some q) (findB E.P E.S kt k es) (chk (some q) (findS E.P E.S kt k es&&(!aggB E.P e&&fits1 E.P e (findV E.P E.S kt k es))) (.leaf (shape1 E.P e (findV E.P E.S kt k es)))) (chk (some q) (findS E.P E.S kt k es) (.leaf z)))
      |false=> .fail)
    |_=> .fail
  |_=>(readA E τ h o).t
def elemsT(con:Option Nat)(h:H)(x:AV):T (List AV):=match con,x with
 |some q, .sl b off len sz _=>(match h[b]? with
  |some (.arr sz' l)=>(match decide (sz=sz')with
   |true=> .br (mark q<|decide (off+len≤l.length)) (.leaf ((l.drop off).take len)) .fail
   |false=> .fail)
  |_=> .fail)
 |_,x=>(elemsA h x).t
def newsT(P:Program)(con:Option Nat)(sz:Nat)(xt:TypeId)(x:AV)(h:H):T (List AV):=
 (under P xt).t.bind fun
 | .slice _=>(match szA x sz with
   |true=>elemsT con h x
   |false=> .fail)
 |_=>(newsA P sz xt x h).t
def allocT(X:SX)(τ:Fr)(id:Nat)(o:Oper):T (AV×Blk):=
 let E:=X.E
 let con:=conOf X o
 match con with
 |none=>(allocA E X.f τ id o).t
 |some q=>match o.op with
  | .makeSlice t l c=>(under E.P t).t.bind fun
    | .slice e=>(info E.P e).t.bind fun i=>(zero E.P e).t.bind fun z=>(ev E τ l).t.bind fun l=>(ev E τ c).t.bind fun c=>(intA l).t.bind fun n=>(intA c).t.bind fun m=>
      (match z.cells.length==i.size with
      |true=> .br (mark q<|decide (0≤n)&&decide (n≤m)&&decide (m*i.bytes≤140737488355328)&&decide (m≤140737488355328)) (.leaf (newSl E X.f o.dst id i.size (List.replicate n.toNat z))) .fail
      |false=> .fail)
    |_=> .fail
  |_=>(allocA E X.f τ id o).t
def storeT(P:Program)(h:H)(t:TypeId)(v:AV)(p:AV):T H:=
 match p with
 | .eptr b i sz off=>(match h[b]? with
   |some (.arr sz' l)=>(size P t).t.bind fun s=>(match v.cells.length==s&&(v.cells.all AV.leaf&&sz==sz')with
    |true=> .br (decide (i<l.length)&&decide (off+s≤(l.getD i undef).cells.length)) (.leaf (h.set b (.arr sz' (l.set i (mk (setCells (l.getD i undef).cells off v.cells) (l.getD i undef)))))) .fail
    |false=> .fail)
   |_=> .fail)
 |_=>(storeA P h t v p).t
def appendT(X:SX)(con:Option Nat)(dst:Option Nat)(st xt:TypeId)(s x:AV)(h:H):T (AV×H):=
 let E:=X.E
 (under E.P st).t.bind fun
 | .slice e=>(info E.P e).t.bind fun i=>(zero E.P e).t.bind fun z=>(newsT E.P con i.size xt x h).bind fun new=>(lenA s).t.bind fun n=>
   (match szA s i.size&&(decide (0<i.bytes)&&(decide (i.bytes≤1000000)&&z.cells.length==i.size))with
   |true=>chk (some (dst.getD 0)) (decide ((n+new.length)*i.bytes≤200000000000000)&&decide (n+new.length≤200000000000000)&&new.all fun y=>y.cells.all AV.leaf) (match s with
    | .nils=>brc con new.isEmpty (.leaf (.nils,h)) (.leaf ((newSl E X.f dst h.length i.size new).1,h++ [(newSl E X.f dst h.length i.size new).2]))
    | .lst sz old .clip=>brc con new.isEmpty (.leaf (.lst sz old .clip,h)) (.leaf ((newSl E X.f dst h.length sz (old++new)).1,h++ [(newSl E X.f dst h.length sz (old++new)).2]))
    | .lst sz old (.own t)=>(match h[t]? with
      |some .tail=> .leaf (.lst sz (old++new) (.own h.length),h.set t .dead++ [.tail])
      |_=> .fail)
    | .sl b off len sz clip=>(elemsT con h (.sl b off len sz clip)).bind fun old=>(match clip with
      |true=>brc con new.isEmpty (.leaf (.sl b off len sz clip,h)) (.leaf ((newSl E X.f dst h.length sz (old++new)).1,h++ [(newSl E X.f dst h.length sz (old++new)).2]))
      |false=>(match off with
       |0=> .leaf (.sl h.length 0 (old++new).length sz false,h.set b .dead++ [.arr sz (old++new)])
       |_+1=> .fail))
    |_=> .fail)
   |false=> .fail)
 |_=> .fail
def copyT(P:Program)(con:Option Nat)(dt st:TypeId)(d s:AV)(h:H):T (AV×H):=
 (under P dt).t.bind fun
 | .slice e=>(size P e).t.bind fun sz=>(newsA P sz st s h).t.bind fun new=>match d with
   | .sl b off len sz' _=>(match h[b]? with
     |some (.arr sz'' l)=>(match sz==sz'&&sz'==sz'' with
      |true=>chk con (decide (off+len≤l.length)&&new.all fun y=>y.cells.all AV.leaf) (.leaf (.int .i64 (min new.length len:Nat),h.set b (.arr sz'' (l.take off++new.take (min new.length len)++l.drop (off+min new.length len)))))
      |false=> .fail)
     |_=> .fail)
   | .nils=> .leaf (.int .i64 0,h)
   |_=> .fail
 |_=> .fail
def heavyT(X:SX)(τ:Fr)(h:H)(o:Oper):T (AV×H):=
 let E:=X.E
 let con:=conOf X o
 match o.op with
 | .store t a x=>(ev E τ a).t.bind fun p=>(ev E τ x).t.bind fun v=>(storeT E.P h t v p).bind fun h'=> .leaf (undef,h')
 | .mapUpdate t m k x| .insert t m k x=>(ev E τ m).t.bind fun m=>(ev E τ k).t.bind fun k=>(ev E τ x).t.bind fun v=>(under E.P t).t.bind fun
   | .map kt _=>match m with
     | .map b=>match h[b]? with
       |some (.map es)=>(match keyA E.P 99 kt k with
        |true=>chk (some 0) (putOk E.P E.S kt k es) (.leaf (undef,h.set b (.map (putM E.P E.S kt k v es))))
        |false=> .fail)
       |_=> .fail
     |_=> .fail
   |_=> .fail
 | .call {callee:= .builtin .append,args,argTypes}=>(evs E τ args.toList).t.bind fun
   | [s,x]=>(lift "append" argTypes[0]?).t.bind fun t=>(lift "append" argTypes[1]?).t.bind fun u=>appendT X con o.dst t u s x h
   |_=> .fail
 | .call {callee:= .builtin .copy,args,argTypes}=>(evs E τ args.toList).t.bind fun
   | [d,s]=>(lift "copy" argTypes[0]?).t.bind fun t=>(lift "copy" argTypes[1]?).t.bind fun u=>copyT E.P con t u d s h
   |_=> .fail
 |_=>(heavyA E X.f τ h o).t
def callT(X:SX)(τ:Fr)(h:H)(o:Oper):T (AV×H):=
 let E:=X.E
 match o.op with
 | .call {callee:= .value g,args, .. }=>(ev E τ g).t.bind fun
   | .clo g first caps=>(evs E τ args.toList).t.bind fun vs=>match E.C g (first++vs++caps)with
     |some r=> .leaf (thaw h r)
     |none=>X.call g (first++vs++caps) h
   |_=> .fail
 |_=> .fail
noncomputable def lightT(X:SX)(τ:Fr)(h:H)(o:Oper):T AV:=
 match o.op with
 | .call {callee:= .value (.func g),args, .. }=>(match X.lit g with
   |true=>(evs X.E τ args.toList).t.bind fun vs=>(X.call g vs h).bind fun r=> .br (askL X.E g vs r.1) (.leaf r.1) .fail
   |false=>(lightA X.E τ o).t)
 |_=>(lightA X.E τ o).t
noncomputable def opT(X:SX)(τ:Fr)(h:H)(o:Oper):T (AV×H):=
 match kindOf X.E o.op with
 | .pure=>(pureT X τ o).bind fun v=> .leaf (v,h)
 | .read=>(readT X τ h o).bind fun v=> .leaf (v,h)
 | .light=>(lightT X τ h o).bind fun v=> .leaf (v,h)
 | .alloc=>(allocT X τ h.length o).bind fun(v,b)=> .leaf (v,h++ [b])
 | .heavy=>heavyT X τ h o
 | .call=>callT X τ h o
def putT{α:Type}(X:SX)(N:Nat)(τ:Fr)(dst:Option Nat)(v:AV)(h:α):T (Fr×α):=
 match dst with
 |none=> .leaf (τ,h)
 |some d=>match decide (d<N)with
  |true=>(match X.split d with
   |true=>(match v with
    | .bool b=> .br (mark d b) (.leaf (upd τ d (.bool true),h)) (.leaf (upd τ d (.bool false),h))
    |_=> .fail)
   |false=> .leaf (upd τ d v,h))
  |false=> .fail
noncomputable def stepT(X:SX)(N:Nat)(ops:Array Oper)(τ:Fr)(h:H)(o:Oper):T (Fr×H):=
 match gtop ops τ o with
 |true=> .fail
 |false=>match wantA ops τ o with
  |true=>(opT X τ h o).bind fun(v,h')=>putT X N τ o.dst v h'
  |false=>(putA N τ o.dst undef).t.bind fun τ'=> .leaf (τ',h)
noncomputable def opsT(X:SX)(N:Nat)(ops:Array Oper):List Oper→Fr→H→T (Fr×H)
 | [],τ,h=> .leaf (τ,h)
 |o::rest,τ,h=>(stepT X N ops τ h o).bind fun(τ',h')=>opsT X N ops rest τ' h'
noncomputable def stepDT(X:SX)(N:Nat)(ops:Array Oper)(id:Nat)(τ:Fr)(h:H)(o:Oper):T (Fr×H):=
 match isAl X.E o with
 |true=>(match gtop ops τ o with
  |true=> .fail
  |false=>(match wantA ops τ o with
   |true=>(match h[id]? with
    |some .hole=>(allocT X τ id o).bind fun(v,b)=>putT X N τ o.dst v (h.set id b)
    |_=> .fail)
   |false=>(putA N τ o.dst undef).t.bind fun τ'=> .leaf (τ',h)))
 |false=>stepT X N ops τ h o
noncomputable def traceT(X:SX)(N:Nat)(ops:Array Oper):List Oper→Nat→Fr→H→T (List (Fr×H)×(Fr×H))
 | [],_,τ,h=> .leaf ([],(τ,h))
 |o::rest,id,τ,h=>(stepDT X N ops id τ h o).bind fun(τ',h')=>(traceT X N ops rest (if isAl X.E o then id+1 else id) τ' h').bind fun(l,r)=> .leaf ((τ,h)::l,r)
def touchA(E:Env)(τ:Fr)(o:Oper):Option (List Nat):=
 let one:=fun(x:Operand)=>match ev E τ x with
  | .ok v=>(match depOf v with|some b=>some [b]|none=>some [])
  | .no _=>none
 match o.op with
 | .store _ a _=>one a
 | .mapUpdate _ m _ _| .insert _ m _ _=>one m
 | .call {callee:= .builtin .append,args, .. }=>(match args.toList with
   | [s,_]=>(match ev E τ s with
     | .ok .nils=>some []
     | .ok (.lst _ _ .clip)=>some []
     | .ok (.lst _ _ (.own t))=>some [t]
     | .ok (.sl b _ _ _ _)=>some [b]
     |_=>none)
   |_=>none)
 | .alloc _| .box .. | .buildSlice .. | .makeSlice .. | .makeMap .. =>some []
 | .convert _ _ x=>(match ev E τ x with
   | .ok (.sl b _ _ _ _)=>some [b]
   |_=>some [])
 |_=>none
def drawDT(E:Env)(ops:Array Oper)(base:Nat)(tr:List (Fr×H))(lt:Fr)(lh:H)(ps:List (Nat×Nat)):Bool:=
 ps.all fun(j,i)=>match readDep E (frameAt tr lt j) (opAt ops j)with
  |some b=>decide (b<(heapAt tr lh i).length)&&(match(if isAl E (opAt ops i)then some [idAt E ops base i]else touchA E (frameAt tr lt i) (opAt ops i))with
   |some l=>!l.contains b
   |none=>false)
  |none=>true
noncomputable def regionT(X:SX)(N:Nat)(ops:Array Oper)(draw:Bool)(τ:Fr)(h:H):T (Fr×H):=
 match draw with
 |false=>opsT X N ops ops.toList τ h
 |true=>(traceT X N ops ops.toList h.length τ (h++List.replicate (alsOf X.E ops.toList) .hole)).bind fun(tr,(τ',h'))=>
  match drawS X.E ops (masksA ops.toList [])&&(drawDT X.E ops h.length tr τ' h' (pairsA X.E ops (masksA ops.toList []))&&(drawL X.E ops tr τ' h.length&&drawH X.E ops tr h' h.length))with
  |true=> .leaf (τ',h')
  |false=> .fail
def iterT(g:Fr→H→T (AM.X×Fr×H)):Nat→Fr→H→T (AM.X×Fr×H)
 |0,_,_=> .fail
 |n+1,τ,h=>(g τ h).bind fun(x,τ,h)=>match x with
  | .normal=>iterT g n τ h
  |x=> .leaf (x,τ,h)
noncomputable def execT(X:SX)(N:Nat):Code→Fr→H→T (AM.X×Fr×H)
 | .skip,τ,h=> .leaf (.normal,τ,h)
 | .label _,τ,h=> .leaf (.normal,τ,h)
 | .region _ ops draw,τ,h=>(regionT X N ops draw τ h).bind fun(τ,h)=> .leaf (.normal,τ,h)
 | .seq a b,τ,h=>(execT X N a τ h).bind fun(x,τ,h)=>match x with
   | .normal=>execT X N b τ h
   |x=> .leaf (x,τ,h)
 | .cond c a b,τ,h=>(ev X.E τ c).t.bind fun
   | .bool true=>execT X N a τ h
   | .bool false=>execT X N b τ h
   |_=> .fail
 | .block id b,τ,h=>(execT X N b τ h).bind fun(x,τ,h)=>match x with
   | .exit i=> .leaf (if i=id then .normal else .exit i,τ,h)
   |x=> .leaf (x,τ,h)
 | .loop b,τ,h=>iterT (execT X N b) X.E.M τ h
 | .exit i,τ,h=> .leaf (.exit i,τ,h)
 | .ret,τ,h=> .leaf (.ret,τ,h)
 |_,_,_=> .fail
def SX.calls(X:SX):CallF:=fun f args h=>(X.call f args h).run
end Go.Proofs.YthnajefdiljneaaDoor.AM
namespace Go.Proofs.YthnajefdiljneaaDoor.AM
set_option linter.unusedVariables false
set_option linter.unusedSimpArgs false
set_option linter.unusedSectionVars false
theorem T.run_bind{α β:Type}(t:T α)(f:α→T β):(t.bind f).run=t.run.bind fun a=>(f a).run:=by
 induction t with
 |leaf a=>rfl
 |fail=>rfl
 |br c t e iht ihe=>cases c with
  |true=>exact iht
  |false=>exact ihe
theorem T.bind_ok{α β:Type}{t:T α}{f:α→T β}{b:β}(h:(t.bind f).run= .ok b): ∃a,t.run= .ok a∧(f a).run= .ok b:=by
 rw[T.run_bind]at h;exact R.bind_ok h
theorem R.t_ok{α:Type}{r:R α}{a:α}(h:r.t.run= .ok a):r= .ok a:=by
 cases r with
 |ok b=>exact h
 |no s=>cases h
theorem R.tbind_ok{α β:Type}{r:R α}{f:α→T β}{b:β}(h:(r.t.bind f).run= .ok b): ∃a,r= .ok a∧(f a).run= .ok b:=by
 obtain⟨a,h1,h2⟩:=T.bind_ok h;exact⟨a,R.t_ok h1,h2⟩
theorem chk_ok{α:Type}{con:Option Nat}{c:Bool}{t:T α}{a:α}(h:(chk con c t).run= .ok a):c=true∧t.run= .ok a:=by
 cases con<;>cases c<;>first|exact⟨rfl,h⟩|cases h
theorem brf_ok{α:Type}{c:Bool}{t:T α}{a:α}(h:(T.br c t .fail).run= .ok a):c=true∧t.run= .ok a:=by
 cases c<;>first|exact⟨rfl,h⟩|cases h
theorem brc_ok{α:Type}{con:Option Nat}{c:Bool}{t e:T α}{a:α}(h:(brc con c t e).run= .ok a):(c=true∧t.run= .ok a)∨(c=false∧e.run= .ok a):=by
 cases con<;>cases c<;>first|exact .inl ⟨rfl,h⟩|exact .inr ⟨rfl,h⟩
theorem br_ok{α:Type}{c:Bool}{t e:T α}{a:α}(h:(T.br c t e).run= .ok a):(c=true∧t.run= .ok a)∨(c=false∧e.run= .ok a):=by
 cases c<;>first|exact .inl ⟨rfl,h⟩|exact .inr ⟨rfl,h⟩
theorem shape1_eq{P:Program}{t:TypeId}{v:AV}(h:fits1 P t v=true):shape1 P t v=v:=by
 unfold fits1 at h;unfold shape1;split at h
 ·split at h
  ·simp only[beq_iff_eq]at h;subst h;simp_all [AV.toI]
  ·cases h
 ·split at h
  ·simp_all [AV.toS]
  ·cases h
 ·split at h
  ·simp_all [AV.toB]
  ·cases h
 ·split at h
  ·simp only[beq_iff_eq]at h;subst h;simp_all [AV.toL]
  ·cases h
 ·rfl
theorem shapes_eq{P:Program}{cs:List AV}: ∀{ts:List TypeId} {k:Nat},fitss P cs k ts=true→k+ts.length≤cs.length→shapes P cs k ts=(cs.drop k).take ts.length
 | [],k,_,_=>by simp[shapes]
 |t::ts,k,h,hl=>by
  simp only[fitss,Bool.and_eq_true]at h;simp only[List.length_cons]at hl;rw[shapes,shape1_eq h.1,shapes_eq h.2 (by omega)]
  have hk:k<cs.length:=by omega
  simp only[List.length_cons];rw[List.drop_eq_getElem_cons hk (i:=k),List.take_succ_cons];simp[List.getD_eq_getElem?_getD,List.getElem?_eq_getElem hk]
theorem shapeC_eq{P:Program}{t:TypeId}{v:AV}(h:fitsC P t v=true):shapeC P t v=v.cells:=by
 simp only[fitsC,Bool.and_eq_true,beq_iff_eq]at h;rw[shapeC,shapes_eq h.2 (by omega),List.drop_zero,←h.1,List.take_length]
theorem boundT_ok{con:Option Nat}{v:Option AV}{d n:Nat}(h:(boundT con v d).run= .ok n):boundA v d= .ok n:=by
 cases v with
 |none=>exact h
 |some v=>
  obtain⟨i,h1,h2⟩:=R.tbind_ok h;obtain⟨h3,h4⟩:=chk_ok h2;simp only[decide_eq_true_eq]at h3;cases h4;simp[boundA,h1,h3]
theorem cutT_ok{con:Option Nat}{x y:AV}{l h n:Nat}{cut:Bool}(hc:(cutT con x l h n cut).run= .ok y):cutA x l h n cut= .ok y:=by
 unfold cutT at hc;split at hc
 ·exact hc
 ·split at hc
  ·cases hc;simp[cutA]
  ·cases hc;simp[cutA]
  ·rcases brc_ok hc with⟨h1,h2⟩|⟨h1,h2⟩
   ·cases h2;simp only[decide_eq_true_eq]at h1;simp[cutA,h1]
   ·cases h2;simp only[decide_eq_false_iff_not]at h1;simp[cutA,h1]
 ·exact R.t_ok hc
theorem sliceT_ok{P:Program}{con:Option Nat}{t:TypeId}{x y:AV}{lo hi mx:Option AV}(h:(sliceT P con t x lo hi mx).run= .ok y):sliceA P t x lo hi mx= .ok y:=by
 unfold sliceT at h;obtain⟨d,h1,h2⟩:=R.tbind_ok h;unfold sliceA;rw[h1];simp only[R.bind];split at h2
 ·split at h2
  ·obtain⟨l,h3,h2⟩:=T.bind_ok h2
   obtain⟨r,h4,h2⟩:=T.bind_ok h2;split at h2
   ·obtain⟨h5,h6⟩:=chk_ok h2
    cases h6;simp only[mark,Bool.and_eq_true,decide_eq_true_eq]at h5;simp[boundT_ok h3,boundT_ok h4,h5]
   ·cases h2
  ·cases h2
 ·obtain⟨sz,h3,h2⟩:=R.tbind_ok h2
  obtain⟨n,h4,h2⟩:=R.tbind_ok h2;obtain⟨l,h5,h2⟩:=T.bind_ok h2;obtain⟨r,h6,h2⟩:=T.bind_ok h2;obtain⟨m,h7,h2⟩:=T.bind_ok h2
  have h7':boundA mx r= .ok m:=by
   cases mx with
   |none=>exact h7
   |some v=>exact boundT_ok h7
  simp only[h3,h4,boundT_ok h5,boundT_ok h6,h7'];split at h2
  ·cases h2
  ·rename_i hne
   split at h2
   ·rename_i hsz
    obtain⟨h8,h9⟩:=chk_ok h2;simp only[mark,Bool.and_eq_true,decide_eq_true_eq]at h8
    have h10:mx.isNone=true∨hi.isSome=true:=by
     cases mx with
     |none=>exact .inl rfl
     |some v=>cases hi with
      |none=>exact absurd rfl (hne v rfl)
      |some u=>exact .inr rfl
    rw[if_pos ⟨h8.1.1,h8.1.2,h8.2,hsz,h10⟩];exact cutT_ok h9
   ·cases h2
 ·have:=R.t_ok h2
  unfold sliceA at this;rw[h1]at this
  simpa only [R.bind]using this
theorem indexT_ok{P:Program}{con:Option Nat}{t:TypeId}{x y:AV}{i:Int}(h:(indexT P con t x i).run= .ok y):indexA P t x i= .ok y:=by
 unfold indexT at h
 cases con with
 |none=>exact R.t_ok h
 |some q=>
  simp only at h;obtain⟨d,h1,h2⟩:=R.tbind_ok h;unfold indexA;rw[h1];simp only[R.bind];split at h2
  ·obtain⟨s,h3,h2⟩:=R.tbind_ok h2
   simp only[h3];split at h2
   ·rename_i hsz
    split at h2
    ·rename_i sz l tl _
     obtain⟨h4,h5⟩:=brf_ok h2;cases h5;simp only[mark,Bool.and_eq_true,decide_eq_true_eq]at h4;simp only[lenA];rw[if_pos ⟨h4.1.1,h4.1.2,hsz⟩]
     have hi:i.toNat<l.length:=by omega
     rw[List.getElem?_eq_getElem hi]
     have hg:l.getD i.toNat undef=l[i.toNat]:=by simp[List.getD_eq_getElem?_getD,List.getElem?_eq_getElem hi]
     rw[hg]at h4 ⊢
     simp[shapeC_eq h4.2]
    ·obtain⟨h4,h5⟩:=brf_ok h2
     cases h5;simp only[mark,Bool.and_eq_true,decide_eq_true_eq]at h4;simp only[lenA];rw[if_pos ⟨h4.1,h4.2,hsz⟩]
    ·obtain⟨h4,h5⟩:=brf_ok h2
     cases h5;simp only[mark,Bool.and_eq_true,decide_eq_true_eq]at h4;simp only[lenA];rw[if_pos ⟨h4.1,h4.2,hsz⟩]
    ·cases h2
   ·cases h2
  ·obtain⟨s,h3,h2⟩:=R.tbind_ok h2
   simp only[h3];split at h2
   ·obtain⟨h4,h5⟩:=brf_ok h2
    cases h5;simp only[mark,Bool.and_eq_true,decide_eq_true_eq]at h4;rw[if_pos h4]
   ·obtain⟨h4,h5⟩:=brf_ok h2
    cases h5;simp only[mark,Bool.and_eq_true,decide_eq_true_eq]at h4;rw[if_pos h4]
   ·cases h2
  ·cases h2
theorem text_eq{a b:ByteArray}:(a.toList==b.toList)=decide (a=b):=by
 rw[Bool.eq_iff_iff];simp only[beq_iff_eq,decide_eq_true_eq];constructor
 ·intro h
  exact bytes_eq (by rw[beq_toListBytes];exact beq_of_eq h)
 ·rintro rfl;rfl
theorem binT_ok{P:Program}{S:TypeId→Bool}{con:Option Nat}{op:BinOp}{t:TypeId}{x y z:AV}(h:(binT P S con op t x y).run= .ok z):binA P S op t x y= .ok z:=by
 unfold binT at h;split at h
 ·rename_i k a k' b
  split at h
  ·rename_i hk
   simp only[decide_eq_true_eq]at hk;subst hk
   have key: ∀op,binA P S op t (.int k a) (.int k b)=lift "binOp" ((pureRun P (binOp op t (.int k a) (.int k b))).bind ofV):=fun _=>rfl
   split at h
   ·cases h;rw[key];simp[binOp];rfl
   ·cases h;rw[key];simp[binOp];rfl
   ·cases h;rw[key];simp[binOp];rfl
   ·obtain⟨h1,h2⟩:=chk_ok h;cases h2;simp only[Bool.not_eq_true',decide_eq_false_iff_not]at h1;rw[key];simp[binOp,Op.intDiv,h1];rfl
   ·obtain⟨h1,h2⟩:=chk_ok h;cases h2;simp only[Bool.not_eq_true',decide_eq_false_iff_not]at h1;rw[key];simp[binOp,Op.intDiv,h1];rfl
   ·cases h;rw[key];simp[binOp];rfl
   ·cases h;rw[key];simp[binOp];rfl
   ·cases h;rw[key];simp[binOp];rfl
   ·cases h;rw[key];simp[binOp];rfl
   ·cases h;rw[key];simp[binOp];rfl
   ·cases h;rw[key];simp[binOp];rfl
   ·exact R.t_ok h
  ·exact R.t_ok h
 ·rename_i a b
  have key: ∀op,binA P S op t (.str a) (.str b)=lift "binOp" ((pureRun P (Op.stringOp op a b)).bind ofV):=fun op=>by cases op<;>rfl
  split at h
  ·obtain⟨h1,h2⟩:=chk_ok h
   cases h2;simp only[decide_eq_true_eq]at h1
   have: ¬((a.size+b.size:Nat):Int)>IntKind.i64.max:=by
    have:IntKind.i64.max=9223372036854775807:=by decide
    omega
   rw[key];simp only[Op.stringOp];rw[if_neg this];rfl
  ·cases h;rw[key];simp only[Op.stringOp,text_eq];rfl
  ·cases h;rw[key];simp only[Op.stringOp,text_eq];rfl
  ·cases h;rw[key];rfl
  ·exact R.t_ok h
 ·exact R.t_ok h
theorem index_str{P:Program}{t:TypeId}{s:ByteArray}{k:IntKind}{n:Int}(hu:P.underlying t=some .string)(h0:0≤n)(h1:n<s.size):pureRun P (Instr.index t (.string s) (.int k n))=some (.int .u8 (byteAt s n.toNat).toNat):=by
 have hn:n.toNat<s.size:=by omega
 have h2:s[n.toNat]?=some (byteAt s n.toNat):=by
  rw[getElem?_pos s n.toNat hn]
  congr 1
  show s.data[n.toNat]'hn=_
  have hl:n.toNat<s.data.toList.length:=by simpa using hn
  simp[byteAt,List.getD_eq_getElem?_getD,List.getElem?_eq_getElem hl]
 unfold Instr.index
 have h:(if 0≤n then s[n.toNat]? else none)=some (byteAt s n.toNat):=by rw[if_pos h0,h2]
 simp only[asIntOf,underlying,bind]
 have e: ∀(f:Program→Sem TypeDesc) (g:TypeDesc→Sem Value),pureRun P ((program.bind f).bind g)=pureRun P ((f P).bind g):=fun _ _=>rfl
 refine(e _ _).trans ?_
 simp only[hu];show pureRun P (match(if 0≤n then s[n.toNat]? else none)with|some b=>_|none=>_)=_;rw[h];rfl
theorem pureT_ok{X:SX}{τ:Fr}{o:Oper}{y:AV}(h:(pureT X τ o).run= .ok y):pureA X.E τ o= .ok y:=by
 unfold pureT at h
 dsimp only at h
 generalize conOf X o=con at h;split at h
 ·rename_i hop
  obtain⟨a,h1,h⟩:=R.tbind_ok h;obtain⟨b,h2,h⟩:=R.tbind_ok h;unfold pureA;rw[hop];simp only[h1,h2,R.bind];exact binT_ok h
 ·rename_i hop
  obtain⟨a,h1,h⟩:=R.tbind_ok h;split at h
  ·cases h;unfold pureA;rw[hop];simp only[h1,R.bind];rfl
  ·cases h;unfold pureA;rw[hop];simp only[h1,R.bind];rfl
  ·exact R.t_ok h
 ·rename_i hop
  obtain⟨a,h1,h⟩:=R.tbind_ok h;obtain⟨b,h2,h⟩:=R.tbind_ok h;obtain⟨c,h3,h⟩:=R.tbind_ok h;obtain⟨d,h4,h⟩:=R.tbind_ok h;unfold pureA;rw[hop];simp only[h1,h2,h3,h4,R.bind];exact sliceT_ok h
 ·rename_i hop
  obtain⟨a,h1,h⟩:=R.tbind_ok h;obtain⟨b,h2,h⟩:=R.tbind_ok h;obtain⟨c,h3,h⟩:=R.tbind_ok h;unfold pureA;rw[hop];simp only[h1,h2,h3,R.bind];exact indexT_ok h
 ·rename_i hop
  split at h
  ·exact R.t_ok h
  ·obtain⟨a,h1,h⟩:=R.tbind_ok h
   obtain⟨b,h2,h⟩:=R.tbind_ok h;split at h
   ·obtain⟨u,h3,h⟩:=R.tbind_ok h
    split at h
    ·obtain⟨h4,h5⟩:=brf_ok h
     cases h5;simp only[mark,Bool.and_eq_true,decide_eq_true_eq]at h4;unfold pureA;rw[hop];simp only[h1,h2,R.bind,index_str (under_ok h3) h4.1 h4.2];rfl
    ·cases h
   ·cases h
 ·exact R.t_ok h
end Go.Proofs.YthnajefdiljneaaDoor.AM
namespace Go.Proofs.YthnajefdiljneaaDoor.AM
set_option linter.unusedVariables false
set_option linter.unusedSimpArgs false
set_option linter.unusedSectionVars false
theorem toBytes_of: ∀{l:List AV},isBytes l=true→toBytes l= .ok (l.map fun v=>UInt8.ofNat v.toI.toNat)
 | [],_=>rfl
 |v::vs,h=>by
  simp only[isBytes,List.all_cons,Bool.and_eq_true]at h;have ih:=toBytes_of (l:=vs) (by simpa [isBytes]using h.2)
  have h1:=h.1
  split at h1
  ·simp[toBytes,ih,AV.toI]
  ·cases h1
theorem getD_of{α:Type}{l:List α}{i:Nat}{d:α}(h:i<l.length):l[i]?=some (l.getD i d):=by
 simp[List.getD_eq_getElem?_getD,List.getElem?_eq_getElem h]
theorem readT_ok{X:SX}{τ:Fr}{h:H}{o:Oper}{y:AV}(hr:(readT X τ h o).run= .ok y):readA X.E τ h o= .ok y:=by
 unfold readT at hr
 dsimp only at hr
 generalize conOf X o=con at hr;split at hr
 ·exact R.t_ok hr
 ·split at hr
  ·--load
   rename_i t a hop;obtain⟨p,h1,hr⟩:=R.tbind_ok hr;split at hr
   ·rename_i b i sz off
    split at hr
    ·rename_i sz' l hb
     split at hr
     ·rename_i hsz
      simp only[decide_eq_true_eq]at hsz;subst hsz;obtain⟨g,h2,hr⟩:=R.tbind_ok hr;unfold readA;rw[hop];simp only[h1,R.bind,loadA,hb];split at hr
      ·obtain⟨h3,h4⟩:=brf_ok hr
       cases h4;simp only[mark,Bool.and_eq_true,decide_eq_true_eq]at h3;rw[getD_of (d:=undef) h3.1.1];simp only[if_true,partA,h2,R.bind];rw[getD_of (d:=undef) h3.1.2,shape1_eq h3.2];rfl
      ·obtain⟨s,h5,hr⟩:=R.tbind_ok hr
       split at hr
       ·rename_i hs
        simp only[decide_eq_true_eq]at hs;obtain⟨h3,h4⟩:=brf_ok hr;cases h4;simp only[mark,Bool.and_eq_true,decide_eq_true_eq]at h3;rw[getD_of (d:=undef) h3.1.1];simp only[if_true,partA,h2,R.bind,h5];rw[if_pos h3.1.2,shapes_eq h3.2 (by omega),hs]
       ·cases hr
     ·cases hr
    ·cases hr
   ·exact R.t_ok hr
  ·--convert
   rename_i src dst x hop;obtain⟨a,h1,hr⟩:=R.tbind_ok hr;obtain⟨us,h2,hr⟩:=R.tbind_ok hr;obtain⟨ud,h3,hr⟩:=R.tbind_ok hr;split at hr
   ·obtain⟨ue,h4,hr⟩:=R.tbind_ok hr
    split at hr
    ·obtain⟨s,h5,hr⟩:=R.tbind_ok hr
     split at hr
     ·rename_i hs
      obtain⟨l,h6,hr⟩:=R.tbind_ok hr;obtain⟨h7,h8⟩:=brf_ok hr;cases h8;unfold readA;rw[hop];simp only[h1,h2,h3,h4,h5,h6,R.bind];rw[if_pos hs,toBytes_of h7];rfl
     ·cases hr
    ·cases hr
   ·cases hr
  ·--lookup
   rename_i t m k ok hop;obtain⟨vm,h1,hr⟩:=R.tbind_ok hr;obtain⟨vk,h2,hr⟩:=R.tbind_ok hr;obtain⟨u,h3,hr⟩:=R.tbind_ok hr;split at hr
   ·rename_i kt te
    obtain⟨es,h4,hr⟩:=R.tbind_ok hr;obtain⟨z,h5,hr⟩:=R.tbind_ok hr;split at hr
    ·rename_i hk
     unfold readA;rw[hop];simp only[h1,h2,h3,h4,h5,R.bind];rw[if_neg (by simp[hk])];split at hr
     all_goals
      rcases brc_ok hr with⟨g1,g2⟩|⟨g1,g2⟩
      ·obtain⟨g3,g4⟩:=chk_ok g2
       cases g4;simp only[Bool.and_eq_true]at g3;unfold findB at g1;split at g1
       ·rename_i p hf
        obtain⟨i,v⟩:=p
        have hv:findV X.E.P X.E.S kt vk es=v:=by unfold findV;rw[hf]
        rw[hv]at g3 ⊢
        simp[hf,lift,shape1_eq g3.2.2]
       ·cases g1
      ·obtain⟨g3,g4⟩:=chk_ok g2
       cases g4;unfold findB at g1;split at g1
       ·cases g1
       ·rename_i hne
        unfold findS at g3
        cases hf:find (eqT X.E.P X.E.S 99 kt) vk es with
        |none=>rw [hf]at g3;cases g3
        |some r=>cases r with
         |none=>simp [hf,lift]
         |some p=>exact(hne _ hf).elim
    ·cases hr
   ·cases hr
  ·exact R.t_ok hr
theorem elemsT_ok{con:Option Nat}{h:H}{x:AV}{l:List AV}(he:(elemsT con h x).run= .ok l):elemsA h x= .ok l:=by
 unfold elemsT at he;split at he
 ·split at he
  ·rename_i hb
   split at he
   ·rename_i hs
    obtain⟨h1,h2⟩:=brf_ok he;cases h2;simp only[mark,decide_eq_true_eq]at h1 hs;simp[elemsA,hb,h1,hs]
   ·cases he
  ·cases he
 ·exact R.t_ok he
theorem newsT_ok{P:Program}{con:Option Nat}{sz:Nat}{xt:TypeId}{x:AV}{h:H}{l:List AV}(hn:(newsT P con sz xt x h).run= .ok l):newsA P sz xt x h= .ok l:=by
 unfold newsT at hn;obtain⟨d,h1,h2⟩:=R.tbind_ok hn;split at h2
 ·split at h2
  ·rename_i hs
   unfold newsA;simp only[h1,R.bind];rw[if_pos hs];exact elemsT_ok h2
  ·cases h2
 ·exact R.t_ok h2
theorem allocT_ok{X:SX}{τ:Fr}{id:Nat}{o:Oper}{r:AV×Blk}(hr:(allocT X τ id o).run= .ok r):allocA X.E X.f τ id o= .ok r:=by
 unfold allocT at hr
 dsimp only at hr
 generalize conOf X o=con at hr;split at hr
 ·exact R.t_ok hr
 ·split at hr
  ·rename_i hop
   obtain⟨d,h1,hr⟩:=R.tbind_ok hr;split at hr
   ·obtain⟨i,h2,hr⟩:=R.tbind_ok hr
    obtain⟨z,h3,hr⟩:=R.tbind_ok hr;obtain⟨vl,h4,hr⟩:=R.tbind_ok hr;obtain⟨vc,h5,hr⟩:=R.tbind_ok hr;obtain⟨n,h6,hr⟩:=R.tbind_ok hr;obtain⟨m,h7,hr⟩:=R.tbind_ok hr;split at hr
    ·rename_i hz
     simp only[beq_iff_eq]at hz;obtain⟨h8,h9⟩:=brf_ok hr;cases h9;simp only[mark,Bool.and_eq_true,decide_eq_true_eq]at h8;unfold allocA;rw[hop];simp only[h1,h2,h3,h4,h5,h6,h7,R.bind];rw[if_pos ⟨h8.1.1.1,h8.1.1.2,h8.1.2,h8.2,hz⟩]
    ·cases hr
   ·cases hr
  ·exact R.t_ok hr
theorem storeT_ok{P:Program}{h h':H}{t:TypeId}{v p:AV}(hs:(storeT P h t v p).run= .ok h'):storeA P h t v p= .ok h':=by
 unfold storeT at hs;split at hs
 ·split at hs
  ·rename_i hb
   obtain⟨s,h1,hs⟩:=R.tbind_ok hs;split at hs
   ·rename_i hc
    simp only[Bool.and_eq_true,beq_iff_eq]at hc;obtain⟨h2,h3⟩:=brf_ok hs;cases h3;simp only[mark,Bool.and_eq_true,decide_eq_true_eq]at h2;simp only[storeA,hb,R.bind,h1];rw[getD_of (d:=undef) h2.1];simp only;rw[if_pos ⟨hc.1,h2.2,hc.2.1,hc.2.2⟩]
   ·cases hs
  ·cases hs
 ·exact R.t_ok hs
theorem newsI_of{P:Program}{i:TypeInfo}{z:AV}{xt:TypeId}{x:AV}{h:H}{l:List AV}(hn:newsA P i.size xt x h= .ok l):newsI P i z xt x h= .ok l:=by
 unfold newsI;split
 ·rename_i k hk
  unfold newsA under at hn;rw[hk]at hn;cases hn
 ·exact hn
theorem appendT_ok{X:SX}{con:Option Nat}{dst:Option Nat}{st xt:TypeId}{s x:AV}{h:H}{r:AV×H}(ha:(appendT X con dst st xt s x h).run= .ok r):appendA X.E X.f dst st xt s x h= .ok r:=by
 unfold appendT at ha;obtain⟨d,h1,ha⟩:=R.tbind_ok ha;split at ha
 ·obtain⟨i,h2,ha⟩:=R.tbind_ok ha
  obtain⟨z,h3,ha⟩:=R.tbind_ok ha;obtain⟨new,h4,ha⟩:=T.bind_ok ha;obtain⟨n,h5,ha⟩:=R.tbind_ok ha;split at ha
  ·rename_i hc
   simp only[Bool.and_eq_true,beq_iff_eq,decide_eq_true_eq]at hc;obtain⟨h6,h7⟩:=chk_ok ha;simp only[mark,Bool.and_eq_true,decide_eq_true_eq]at h6;unfold appendA;simp only[h1,h2,h3,newsI_of (newsT_ok h4),h5,R.bind];rw[if_pos ⟨hc.1,h6.1.1,h6.1.2,hc.2.1,hc.2.2.1,hc.2.2.2,h6.2⟩];split at h7
   ·rcases brc_ok h7 with⟨g1,g2⟩|⟨g1,g2⟩<;>(cases g2;simp[g1])
   ·rcases brc_ok h7 with⟨g1,g2⟩|⟨g1,g2⟩<;>(cases g2;simp[g1])
   ·split at h7
    ·rename_i ht;cases h7;simp[ht]
    ·cases h7
   ·obtain⟨old,h8,h7⟩:=T.bind_ok h7
    simp only[elemsT_ok h8];split at h7
    ·rcases brc_ok h7 with⟨g1,g2⟩|⟨g1,g2⟩<;>(cases g2;simp[g1])
    ·split at h7
     ·cases h7;simp
     ·cases h7
   ·cases h7
  ·cases ha
 ·cases ha
theorem copyT_ok{P:Program}{con:Option Nat}{dt st:TypeId}{d s:AV}{h:H}{r:AV×H}(hc:(copyT P con dt st d s h).run= .ok r):copyA P dt st d s h= .ok r:=by
 unfold copyT at hc;obtain⟨u,h1,hc⟩:=R.tbind_ok hc;split at hc
 ·obtain⟨sz,h2,hc⟩:=R.tbind_ok hc
  obtain⟨new,h3,hc⟩:=R.tbind_ok hc;unfold copyA;simp only[h1,h2,h3,R.bind];split at hc
  ·split at hc
   ·rename_i hb
    split at hc
    ·rename_i hs
     simp only[Bool.and_eq_true,beq_iff_eq]at hs;obtain⟨h4,h5⟩:=chk_ok hc;simp only[mark,Bool.and_eq_true,decide_eq_true_eq]at h4;cases h5;simp only[hb];rw[if_pos ⟨hs.1,hs.2,h4.1,h4.2⟩]
    ·cases hc
   ·cases hc
  ·cases hc;rfl
  ·cases hc
 ·cases hc
theorem heavyT_ok{X:SX}{τ:Fr}{h:H}{o:Oper}{r:AV×H}(hr:(heavyT X τ h o).run= .ok r):heavyA X.E X.f τ h o= .ok r:=by
 unfold heavyT at hr
 dsimp only at hr
 generalize conOf X o=con at hr;split at hr
 ·rename_i hop
  obtain⟨p,h1,hr⟩:=R.tbind_ok hr;obtain⟨v,h2,hr⟩:=R.tbind_ok hr;obtain⟨h',h3,hr⟩:=T.bind_ok hr;cases hr;unfold heavyA;rw[hop];simp only[h1,h2,storeT_ok h3,R.bind]
 all_goals try (
  rename_i hop;obtain⟨vm,h1,hr⟩:=R.tbind_ok hr;obtain⟨vk,h2,hr⟩:=R.tbind_ok hr;obtain⟨vx,h3,hr⟩:=R.tbind_ok hr;obtain⟨u,h4,hr⟩:=R.tbind_ok hr;split at hr
  ·split at hr
   ·split at hr
    ·rename_i hb
     split at hr
     ·rename_i hk
      obtain⟨h5,h6⟩:=chk_ok hr;cases h6;unfold heavyA;rw[hop];simp only[h1,h2,h3,h4,R.bind,hb];rw[if_neg (by simp[hk])];unfold putOk at h5;split at h5
      ·rename_i hf
       split at h5
       ·rename_i e he
        simp[hf,lift,he,h5,putM]
       ·cases h5
      ·rename_i hf
       simp[hf,lift,putM]
      ·cases h5
     ·cases hr
    ·cases hr
   ·cases hr
  ·cases hr)
 ·rename_i args argTypes hop
  obtain⟨vs,h1,hr⟩:=R.tbind_ok hr;split at hr
  ·obtain⟨t,h2,hr⟩:=R.tbind_ok hr
   obtain⟨u,h3,hr⟩:=R.tbind_ok hr;unfold heavyA;rw[hop];simp only[h1,h2,h3,R.bind];exact appendT_ok hr
  ·cases hr
 ·rename_i args argTypes hop
  obtain⟨vs,h1,hr⟩:=R.tbind_ok hr;split at hr
  ·obtain⟨t,h2,hr⟩:=R.tbind_ok hr
   obtain⟨u,h3,hr⟩:=R.tbind_ok hr;unfold heavyA;rw[hop];simp only[h1,h2,h3,R.bind];exact copyT_ok hr
  ·cases hr
 ·exact R.t_ok hr
theorem callT_ok{X:SX}{τ:Fr}{h:H}{o:Oper}{r:AV×H}(hr:(callT X τ h o).run= .ok r):callA X.E X.calls τ h o= .ok r:=by
 unfold callT at hr
 dsimp only at hr
 split at hr
 ·rename_i hop
  obtain⟨g,h1,hr⟩:=R.tbind_ok hr;split at hr
  ·obtain⟨vs,h2,hr⟩:=R.tbind_ok hr
   unfold callA;rw[hop];simp only[h1,h2,R.bind];split at hr
   ·rename_i hc;rw[hc];exact hr
   ·rename_i hc;rw[hc];exact hr
  ·cases hr
 ·cases hr
theorem lightT_ok{X:SX}{τ:Fr}{h:H}{o:Oper}{v:AV}(hr:(lightT X τ h o).run= .ok v):lightA X.E τ o= .ok v:=by
 unfold lightT at hr;split at hr
 ·rename_i g args ats hop
  split at hr
  ·obtain⟨vs,h1,hr⟩:=R.tbind_ok hr
   obtain⟨r,h2,hr⟩:=T.bind_ok hr;obtain⟨h3,hr⟩:=brf_ok hr;cases hr
   have h4:X.E.C g vs=some r.1∧noF r.1=true:=by simpa [askL]using h3
   unfold lightA;simp only[hop,h1,R.bind,h4.1,h4.2,if_true]
  ·exact R.t_ok hr
 ·exact R.t_ok hr
theorem opT_ok{X:SX}{τ:Fr}{h:H}{o:Oper}{r:AV×H}(hr:(opT X τ h o).run= .ok r):opA X.E X.f X.calls τ h o= .ok r:=by
 unfold opT at hr;unfold opA;split at hr
 ·rename_i hk;obtain⟨v,h1,hr⟩:=T.bind_ok hr;cases hr;simp[hk,pureT_ok h1]
 ·rename_i hk;obtain⟨v,h1,hr⟩:=T.bind_ok hr;cases hr;simp[hk,readT_ok h1]
 ·rename_i hk;obtain⟨v,h1,hr⟩:=T.bind_ok hr;cases hr;simp[hk,lightT_ok h1]
 ·rename_i hk;obtain⟨⟨v,b⟩,h1,hr⟩:=T.bind_ok hr;cases hr;simp[hk,allocT_ok h1]
 ·rename_i hk;simp only[hk];exact heavyT_ok hr
 ·rename_i hk;simp only[hk];exact callT_ok hr
theorem putT_ok{α:Type}{X:SX}{N:Nat}{τ:Fr}{dst:Option Nat}{v:AV}{h:α}{r:Fr×α}(hr:(putT X N τ dst v h).run= .ok r):putA N τ dst v= .ok r.1∧r.2=h:=by
 unfold putT at hr;split at hr
 ·cases hr;exact⟨rfl,rfl⟩
 ·split at hr
  ·rename_i hd
   simp only[decide_eq_true_eq]at hd;split at hr
   ·split at hr
    ·rcases br_ok hr with⟨g1,g2⟩|⟨g1,g2⟩<;>(subst g1;cases g2;exact⟨by simp[putA_some,hd],rfl⟩)
    ·cases hr
   ·cases hr;exact⟨by simp[putA_some,hd],rfl⟩
  ·cases hr
theorem stepT_ok{X:SX}{N:Nat}{ops:Array Oper}{τ:Fr}{h:H}{o:Oper}{r:Fr×H}(hr:(stepT X N ops τ h o).run= .ok r):stepA X.E X.f X.calls N ops τ h o= .ok r:=by
 unfold stepT at hr;unfold stepA;split at hr
 ·cases hr
 rename_i hgt;rw[if_neg (by simp[hgt])];split at hr
 ·rename_i hw
  obtain⟨⟨v,h'⟩,h1,hr⟩:=T.bind_ok hr;obtain⟨h2,h3⟩:=putT_ok hr;rw[if_pos hw,opT_ok h1];simp only[h2,R.bind];rw[←h3]
 ·rename_i hw
  obtain⟨τ',h1,hr⟩:=R.tbind_ok hr;cases hr;rw[if_neg (by simp[hw])];simp[h1]
theorem opsT_ok{X:SX}{N:Nat}{ops:Array Oper}: ∀{l:List Oper} {τ:Fr} {h:H} {r:Fr×H},(opsT X N ops l τ h).run= .ok r→opsA X.E X.f X.calls N ops l τ h= .ok r
 | [],τ,h,r,hr=>hr
 |o::rest,τ,h,r,hr=>by
  obtain⟨⟨τ',h'⟩,h1,hr⟩:=T.bind_ok hr;simp only[opsA,stepT_ok h1,R.bind];exact opsT_ok hr
theorem stepDT_ok{X:SX}{N:Nat}{ops:Array Oper}{id:Nat}{τ:Fr}{h:H}{o:Oper}{r:Fr×H}(hr:(stepDT X N ops id τ h o).run= .ok r):stepD X.E X.f X.calls N ops id τ h o= .ok r:=by
 unfold stepDT at hr;unfold stepD;split at hr
 ·rename_i ha
  rw[if_pos ha];split at hr
  ·cases hr
  rename_i hgt;rw[if_neg (by simp[hgt])];split at hr
  ·rename_i hw
   rw[if_pos hw];split at hr
   ·rename_i hh
    obtain⟨⟨v,b⟩,h1,hr⟩:=T.bind_ok hr;obtain⟨h2,h3⟩:=putT_ok hr;simp only[hh,allocT_ok h1,h2,R.bind];rw[←h3]
   ·cases hr
  ·rename_i hw
   rw[if_neg (by simp[hw])];obtain⟨τ',h1,hr⟩:=R.tbind_ok hr;cases hr;simp[h1]
 ·rename_i ha
  rw[if_neg (by simp[ha])];exact stepT_ok hr
theorem traceT_ok{X:SX}{N:Nat}{ops:Array Oper}: ∀{l:List Oper} {id:Nat} {τ:Fr} {h:H} {r:List (Fr×H)×(Fr×H)},(traceT X N ops l id τ h).run= .ok r→traceA X.E X.f X.calls N ops l id τ h= .ok r
 | [],id,τ,h,r,hr=>hr
 |o::rest,id,τ,h,r,hr=>by
  obtain⟨⟨τ',h'⟩,h1,hr⟩:=T.bind_ok hr;obtain⟨⟨l,r2⟩,h2,hr⟩:=T.bind_ok hr;cases hr;simp only[traceA,stepDT_ok h1,R.bind,traceT_ok h2]
end Go.Proofs.YthnajefdiljneaaDoor.AM
namespace Go.Proofs.YthnajefdiljneaaDoor.AM
set_option linter.unusedVariables false
set_option linter.unusedSimpArgs false
set_option linter.unusedSectionVars false
theorem same_refl: ∀v:AV,same v v=true:=by
 intro v
 exact AV.rec (motive_1:=fun v=>same v v=true) (motive_2:=fun l=>sames l l=true)
  (fun _=>by simp[same]) (fun _ _=>by simp[same]) (fun _=>by simp[same]) rfl (fun _ _=>by simp[same]) (fun _ _ _ _=>by simp[same]) (fun cs off h=>by simp[same,h]) rfl
  (fun _ _ _ _ _=>by simp[same]) (fun _ _ _ _=>by simp[same]) (fun _ l _ h=>by simp[same,h]) (fun _ l h=>by simp[same,h]) rfl (fun _=>by simp[same]) rfl
  (fun _ l m h k=>by simp[same,h,k]) rfl (fun l h=>by simpa [same]using h) (fun l h=>by simpa [same]using h) rfl (fun x xs h k=>by simp[sames,h,k]) v
theorem sames_refl: ∀l:List AV,sames l l=true
 | []=>rfl
 |x::xs=>by simp[sames,same_refl x,sames_refl xs]
theorem samePairs_refl: ∀l:List (AV×AV),samePairs l l=true
 | []=>rfl
 |x::xs=>by simp[samePairs,same_refl,samePairs_refl xs]
theorem sameBlk_refl(b:Option Blk):sameBlk b b=true:=by
 cases b with
 |none=>rfl
 |some b=>cases b<;>simp [sameBlk,sames_refl,samePairs_refl]
theorem get_set_ne{α:Type}{l:List α}{i j:Nat}{x:α}(h:i≠j):(l.set i x)[j]?=l[j]?:=by
 rw[List.getElem?_set];simp[h]
theorem get_append_lt{α:Type}{l m:List α}{j:Nat}(h:j<l.length):(l++m)[j]?=l[j]?:=List.getElem?_append_left h
theorem store_touch{P:Program}{h h':H}{t:TypeId}{v p:AV}(hs:storeA P h t v p= .ok h'){b:Nat}(hb:depOf p≠some b):h'[b]?=h[b]?:=by
 unfold storeA at hs;split at hs
 ·split at hs
  ·obtain⟨s,h1,hs⟩:=R.bind_ok hs
   split at hs
   ·cases hs;exact get_set_ne (fun e=>hb (by rw[e];rfl))
   ·cases hs
  ·cases hs
 ·split at hs
  ·split at hs
   ·obtain⟨s,h1,hs⟩:=R.bind_ok hs
    split at hs
    ·cases hs;exact get_set_ne (fun e=>hb (by rw[e];rfl))
    ·cases hs
   ·cases hs
  ·cases hs
 ·cases hs
theorem append_touch{E:Env}{f:FuncId}{dst:Option Nat}{st xt:TypeId}{s x:AV}{h:H}{r:AV×H}(ha:appendA E f dst st xt s x h= .ok r){b:Nat}(hb:b<h.length)
  (hs:match s with| .nils=>True| .lst _ _ .clip=>True| .lst _ _ (.own t)=>t≠b| .sl c _ _ _ _=>c≠b|_=>False):r.2[b]?=h[b]?:=by
 unfold appendA at ha;obtain⟨d,h1,ha⟩:=R.bind_ok ha;split at ha
 ·obtain⟨i,h2,ha⟩:=R.bind_ok ha
  obtain⟨z,h3,ha⟩:=R.bind_ok ha;obtain⟨new,h4,ha⟩:=R.bind_ok ha;obtain⟨n,h5,ha⟩:=R.bind_ok ha;split at ha
  ·split at ha
   ·split at ha
    ·cases ha;rfl
    ·cases ha;exact get_append_lt hb
   ·split at ha
    ·cases ha;rfl
    ·cases ha;exact get_append_lt hb
   ·split at ha
    ·cases ha
     simp only at hs;rw[get_append_lt (by simpa using hb)];exact get_set_ne hs
    ·cases ha
   ·simp only at hs
    obtain⟨old,h6,ha⟩:=R.bind_ok ha;split at ha
    ·split at ha
     ·cases ha;rfl
     ·cases ha;exact get_append_lt hb
    ·split at ha
     ·cases ha
      rw[get_append_lt (by simpa using hb)];exact get_set_ne hs
     ·cases ha
   ·cases ha
  ·cases ha
 ·cases ha
theorem touch_op{E:Env}{f:FuncId}{call:CallF}{τ:Fr}{h h':H}{o:Oper}{y:AV}{l:List Nat}(ho:opA E f call τ h o= .ok (y,h'))(hna:isAl E o=false)(hO:isO E o=true)(ht:touchA E τ o=some l){b:Nat}(hb:b<h.length)(hl:b∉l):h'[b]?=h[b]?:=by
 unfold opA at ho
 cases hk:kindOf E o.op with
 |pure=>simp [isO,hk]at hO
 |read=>simp [isO,hk]at hO
 |light=>simp [isO,hk]at hO
 |alloc=>simp [isAl,hk]at hna
 |call=>
  exfalso
  unfold touchA at ht
  cases hop:o.op with
  |call c=>
   obtain⟨callee,args,ats⟩:=c
   cases callee with
   |builtin bi=>simp only[hop,kindOf]at hk;cases bi<;>simp at hk;split at hk<;>cases hk
   |value g=>simp [hop]at ht
   |invoke r m=>simp [hop]at ht
  |store=>simp [hop,kindOf]at hk
  |mapUpdate=>simp [hop,kindOf]at hk
  |insert=>simp [hop,kindOf]at hk
  |alloc=>simp [hop,kindOf]at hk
  |box=>simp [hop,kindOf]at hk
  |buildSlice=>simp [hop,kindOf]at hk
  |makeSlice=>simp [hop,kindOf]at hk
  |makeMap=>simp [hop,kindOf]at hk
  |convert src dst x=>simp only[hop,kindOf]at hk;split at hk<;>(try split at hk)<;>cases hk
  |_=>simp [hop]at ht
 |heavy=>
  simp only[hk]at ho;unfold heavyA at ho;unfold touchA at ht
  have one: ∀{x:Operand} {v:AV},ev E τ x= .ok v→(match ev E τ x with| .ok v=>(match depOf v with|some b=>some [b]|none=>some [])| .no _=>none)=some l→depOf v≠some b:=by
   intro x v hv hx;rw[hv]at hx;simp only at hx
   cases hd:depOf v with
   |none=>simp
   |some c=>
    rw[hd]at hx;cases hx;intro e;cases e;exact hl (List.mem_singleton.2 rfl)
  split at ho
  ·rename_i src dst x hop
   rw[hop]at ht;simp only at ht;obtain⟨v,h1,ho⟩:=R.bind_ok ho;obtain⟨us,h2,ho⟩:=R.bind_ok ho;rw[h1]at ht;split at ho
   ·rename_i e b0 off n sz clip
    cases ht;obtain⟨ue,h3,ho⟩:=R.bind_ok ho;split at ho
    ·split at ho
     ·cases ho
      exact get_set_ne (fun e=>hl (by simp[e]))
     ·cases ho
    ·cases ho
   ·cases ho
  ·rename_i hop
   rw[hop]at ht;simp only at ht;obtain⟨p,h1,ho⟩:=R.bind_ok ho;obtain⟨v,h2,ho⟩:=R.bind_ok ho;obtain⟨h3,h4,ho⟩:=R.bind_ok ho;cases ho;exact store_touch h4 (one h1 ht)
  ·rename_i hop
   rw[hop]at ht;simp only at ht;obtain⟨vm,h1,ho⟩:=R.bind_ok ho;obtain⟨vk,h2,ho⟩:=R.bind_ok ho;obtain⟨vx,h3,ho⟩:=R.bind_ok ho;obtain⟨u,h4,ho⟩:=R.bind_ok ho
   have h5:=one h1 ht
   split at ho
   ·split at ho
    ·have hne: ∀{b0:Nat} {x:Blk},depOf (.map b0)≠some b→(h.set b0 x)[b]?=h[b]?:=fun{b0 x} h5=>get_set_ne (fun e=>h5 (by rw[e];rfl))
     split at ho
     ·split at ho
      ·cases ho
      ·obtain⟨r,h6,ho⟩:=R.bind_ok ho
       split at ho
       ·split at ho
        ·split at ho
         ·cases ho;exact hne h5
         ·cases ho
        ·cases ho
       ·cases ho;exact hne h5
     ·cases ho
    ·cases ho
   ·cases ho
  ·rename_i hop
   rw[hop]at ht;simp only at ht;obtain⟨vm,h1,ho⟩:=R.bind_ok ho;obtain⟨vk,h2,ho⟩:=R.bind_ok ho;obtain⟨vx,h3,ho⟩:=R.bind_ok ho;obtain⟨u,h4,ho⟩:=R.bind_ok ho
   have h5:=one h1 ht
   split at ho
   ·split at ho
    ·have hne: ∀{b0:Nat} {x:Blk},depOf (.map b0)≠some b→(h.set b0 x)[b]?=h[b]?:=fun{b0 x} h5=>get_set_ne (fun e=>h5 (by rw[e];rfl))
     split at ho
     ·split at ho
      ·cases ho
      ·obtain⟨r,h6,ho⟩:=R.bind_ok ho
       split at ho
       ·split at ho
        ·split at ho
         ·cases ho;exact hne h5
         ·cases ho
        ·cases ho
       ·cases ho;exact hne h5
     ·cases ho
    ·cases ho
   ·cases ho
  ·rename_i bi args ats hop
   rw[hop]at ht;obtain⟨vs,h1,ho⟩:=R.bind_ok ho;split at ho
   ·--append
    obtain⟨t,h2,ho⟩:=R.bind_ok ho;obtain⟨u,h3,ho⟩:=R.bind_ok ho;rename_i s x;simp only at ht
    cases hal:args.toList with
    |nil=>rw [hal]at ht;cases ht
    |cons a1 as=>
     rw[hal]at ht h1
     cases as with
     |nil=>cases ht
     |cons a2 as=>
      cases as with
      |cons _ _=>cases ht
      |nil=>
       obtain⟨s',g1,h1⟩:=R.bind_ok h1;obtain⟨r',g2,h1⟩:=R.bind_ok h1;obtain⟨x',g3,g2⟩:=R.bind_ok g2;cases g2;cases h1;simp only[g1]at ht
       refine append_touch ho hb ?_
       split at ht
       ·rename_i he;cases he;trivial
       ·rename_i he;cases he;trivial
       ·rename_i he;cases he;cases ht;exact fun e=>hl (by simp[e])
       ·rename_i he;cases he;cases ht;exact fun e=>hl (by simp[e])
       ·cases ht
   ·--copy
    cases ht
   ·--clear
    cases ht
   ·cases ho
  ·cases ho
theorem touch_stepD{E:Env}{f:FuncId}{call:CallF}{N:Nat}{ops:Array Oper}{base i:Nat}{τ τ':Fr}{h h':H}{o:Oper}(hs:stepD E f call N ops (idAt E ops base i) τ h o= .ok (τ',h')){l:List Nat}(hO:isO E o=true)
  (ht:(if isAl E o then some [idAt E ops base i]else touchA E τ o)=some l) {b:Nat} (hb:b<h.length) (hl:l.contains b=false):h'[b]?=h[b]?:=by
 have hl':b∉l:=by simpa using hl
 cases ha:isAl E o with
 |true=>
  rw[ha]at ht;cases ht
  rcases stepD_al hs ha with⟨_,_,v,blk,_,rfl,_⟩|⟨_,rfl,_⟩
  ·exact get_set_ne (fun e=>hl' (by simp[e]))
  ·rfl
 |false=>
  rw[ha]at ht
  have hst:=stepD_ot hs ha
  unfold stepA at hst;split at hst
  ·cases hst
  split at hst
  ·split at hst
   ·rename_i v h2 ho
    obtain⟨τ2,_,hst⟩:=R.bind_ok hst;cases hst;exact touch_op ho ha hO (by simpa using ht) hb hl'
   ·cases hst
  ·obtain⟨τ2,_,hst⟩:=R.bind_ok hst
   cases hst;rfl
theorem regionT_ok{X:SX}{N:Nat}{ops:Array Oper}{draw:Bool}{τ:Fr}{h:H}{r:Fr×H}(hr:(regionT X N ops draw τ h).run= .ok r):regionA X.E X.f X.calls N ops draw τ h= .ok r:=by
 unfold regionT at hr;split at hr
 ·exact opsT_ok hr
 ·obtain⟨⟨tr,τ',h'⟩,h1,hr⟩:=T.bind_ok hr
  simp only at hr
  have htr:=traceT_ok h1
  split at hr
  ·rename_i hc
   simp only[Bool.and_eq_true]at hc;cases hr;simp only[regionA,htr,R.bind];rw[if_pos hc.1,if_pos ?_,if_pos hc.2.2.1,if_pos hc.2.2.2];obtain⟨t1,t2,t3,t4⟩:=trace_spec htr
   refine List.all_eq_true.2 fun⟨j,i⟩ hm=>?_
   have h2:=List.all_eq_true.1 hc.2.1 (j,i) hm
   simp only at h2 ⊢
   cases hd:readDep X.E (frameAt tr τ' j) (opAt ops j)with
   |none=>rfl
   |some b=>
    rw[hd]at h2;simp only[Bool.and_eq_true,decide_eq_true_eq]at h2;obtain⟨h3,h4⟩:=h2;simp only[Bool.or_eq_true];left;unfold pairsA at hm;obtain⟨j',hj',hm⟩:=List.mem_flatMap.1 hm;split at hm
    ·obtain⟨i',hi',he⟩:=List.mem_map.1 hm
     cases he;obtain⟨hi1,hi2⟩:=List.mem_filter.1 hi';simp only[Bool.and_eq_true]at hi2
     have hi:=List.mem_range.1 hi1
     split at h4
     ·rename_i l hl
      have hstep:=t4 i (opAt ops i) (by rw[Array.getElem?_toList];exact opAt_get hi)
      rw[touch_stepD hstep hi2.1.1.1 hl h3 (by simpa using h4)];exact sameBlk_refl _
     ·cases h4
    ·cases hm
  ·cases hr
theorem iterT_ok{g:Fr→H→T (AM.X×Fr×H)}{g':Fr→H→R (AM.X×Fr×H)}(hg: ∀τ h r,(g τ h).run= .ok r→g' τ h= .ok r): ∀{n:Nat} {τ:Fr} {h:H} {r:AM.X×Fr×H},(iterT g n τ h).run= .ok r→iter g' n τ h= .ok r
 |0,τ,h,r,hr=>by cases hr
 |n+1,τ,h,r,hr=>by
  obtain⟨⟨x,τ',h'⟩,h1,hr⟩:=T.bind_ok hr;simp only[iter,hg _ _ _ h1]
  cases x with
  |normal=>exact iterT_ok hg hr
  |ret=>exact hr
  |exit i=>exact hr
theorem execT_ok{X:SX}{N:Nat}: ∀{c:Code} {τ:Fr} {h:H} {r:AM.X×Fr×H},(execT X N c τ h).run= .ok r→exec X.E X.f X.calls N c τ h= .ok r:=by
 intro c
 induction c with
 |skip=>intro τ h r hr;exact hr
 |label=>intro τ h r hr;exact hr
 |region id ops draw=>
  intro τ h r hr;obtain⟨⟨τ',h'⟩,h1,hr⟩:=T.bind_ok hr;simp only[exec,regionP_eq,regionT_ok h1,R.bind];exact hr
 |seq a b iha ihb=>
  intro τ h r hr;obtain⟨⟨x,τ',h'⟩,h1,hr⟩:=T.bind_ok hr;simp only[exec,iha h1]
  cases x with
  |normal=>exact ihb hr
  |ret=>exact hr
  |exit i=>exact hr
 |cond c a b iha ihb=>
  intro τ h r hr;obtain⟨v,h1,hr⟩:=R.tbind_ok hr;simp only[exec,h1];split at hr
  ·exact iha hr
  ·exact ihb hr
  ·cases hr
 |block id b ih=>
  intro τ h r hr;obtain⟨⟨x,τ',h'⟩,h1,hr⟩:=T.bind_ok hr;simp only[exec,ih h1]
  cases x with
  |normal=>exact hr
  |ret=>exact hr
  |exit i=>exact hr
 |loop b ih=>
  intro τ h r hr;simp only[exec];exact iterT_ok (fun _ _ _=>ih) hr
 |exit i=>intro τ h r hr;exact hr
 |ret=>intro τ h r hr;exact hr
 |_=>intro τ h r hr;cases hr
end Go.Proofs.YthnajefdiljneaaDoor.AM
namespace Go.Proofs.YthnajefdiljneaaDoor.AM
set_option linter.unusedVariables false
set_option linter.unusedSimpArgs false
set_option linter.unusedSectionVars false
def CodeOK(E:Env)(N:Nat)(c:Code)(τ:Fr)(h:H)(x:X)(τ':Fr)(h':H):Prop:=
 ∀(A:Area) (s0 nn:Nat) (rd:Option Nat) (ρ:Rho) (w:World) (a:Act),(rd=none∨noRF c=true)→St E A ρ w a τ (view h) N s0→c.wpIn (fw rd) nn E.P (Post E A N s0 ρ w h x τ' h') a w
def Con(E:Env)(f:FuncId)(args:List AV)(h:H)(r:AV)(h':H):Prop:=
 ∀(A:Area) (ρ:Rho) (w:World) (vs:Array Value),HR E.G A ρ w (view h)→CRs (Forb A ρ (view h)) ρ w vs.toList args→
  (∀W,(callFunc f vs).run E.P W= .ok (.enter f vs) W)∧Calls E.P f vs w fun e w'=> ∃v ρ',e= .returned v∧Ext (Own ρ (view h)) ρ w (Own ρ' (view h')) ρ' w'∧HR E.G A ρ' w' (view h')∧CR (Forb A ρ' (view h')) ρ' w' v r
structure Ground (E:Env):Prop where
 hS:Smet E.P E.S
 hC:COK E
 hB:BOK E
 hmix:E.P.follows .mixedOrders=true
theorem CodeOK.of_run{X:SX}(g:Ground X.E)(hcall:CallOK X.E X.calls){N:Nat}{c:Code}{τ:Fr}{h:H}{x:AM.X}{τ':Fr}{h':H}(hr:(execT X N c τ h).run= .ok (x,τ',h')):CodeOK X.E N c τ h x τ' h':=
 fun A s0 nn rd ρ w a hrd hs=>exec_wp g.hS g.hC g.hB hcall g.hmix c rd nn τ h x τ' h' ρ w a hrd (execT_ok hr) hs
def X.inBlock(id:Nat):X→X
 | .exit i=>if i=id then .normal else .exit i
 |x=>x
inductive Rounds (E:Env) (N:Nat) (c:Code):Fr→H→X→Fr→H→Prop
 |done {τ h x τ' h'} (hc:CodeOK E N c τ h x τ' h') (hx:x≠ .normal):Rounds E N c τ h x τ' h'
 |more {τ h τ1 h1 x τ' h'} (hc:CodeOK E N c τ h .normal τ1 h1) (hr:Rounds E N c τ1 h1 x τ' h'):Rounds E N c τ h x τ' h'
end Go.Proofs.YthnajefdiljneaaDoor.AM
namespace Go.Proofs.YthnajefdiljneaaDoor.AM
set_option linter.unusedVariables false
set_option linter.unusedSimpArgs false
set_option linter.unusedSectionVars false
def Reach(E:Env)(A:Area)(N s0:Nat)(ρ0:Rho)(w0:World)(h0:H)(τ:Fr)(h:H)(a:Act)(w:World):Prop:=
 ∃ρ,Ext (Own ρ0 (view h0)) ρ0 w0 (Own ρ (view h)) ρ w∧St E A ρ w a τ (view h) N s0
def Tri(E:Env)(N:Nat)(h0:H)(c:Code)(τ:Fr)(h:H)(x:X)(τ':Fr)(h':H):Prop:=
 ∀(A:Area) (s0 nn:Nat) (rd:Option Nat) (ρ0:Rho) (w0 w:World) (a:Act),(rd=none∨noRF c=true)→(∀b,h0.length≤b→ρ0 b=none)→Reach E A N s0 ρ0 w0 h0 τ h a w→
  c.wpIn (fw rd) nn E.P (fun e a' w'=>e=x.exit'∧Reach E A N s0 ρ0 w0 h0 τ' h' a' w') a w
def Wk(E:Env)(N:Nat)(h0:H)(τ:Fr)(h:H)(τ':Fr)(h':H):Prop:=
 ∀(A:Area) (s0:Nat) (ρ0:Rho) (w0 w:World) (a:Act),(∀b,h0.length≤b→ρ0 b=none)→Reach E A N s0 ρ0 w0 h0 τ h a w→Reach E A N s0 ρ0 w0 h0 τ' h' a w
theorem Wk.refl{E:Env}{N:Nat}{h0:H}{τ:Fr}{h:H}:Wk E N h0 τ h τ h:=fun _ _ _ _ _ _ _ h=>h
theorem Wk.trans{E:Env}{N:Nat}{h0:H}{τ τ1 τ2:Fr}{h h1 h2:H}(a:Wk E N h0 τ h τ1 h1)(b:Wk E N h0 τ1 h1 τ2 h2):Wk E N h0 τ h τ2 h2:=fun A s0 ρ0 w0 w ac hn hr=>b A s0 ρ0 w0 w ac hn (a A s0 ρ0 w0 w ac hn hr)
section
variable {E:Env} {N:Nat} {h0:H}
theorem Tri.of_code{c:Code}{τ τ':Fr}{h h':H}{x:X}(hc:CodeOK E N c τ h x τ' h'):Tri E N h0 c τ h x τ' h':=by
 intro A s0 nn rd ρ0 w0 w a hrd hn ⟨ρ,hx,hs⟩
 refine wpIn_mono (hc A s0 nn rd ρ w a hrd hs) ?_
 rintro e a' w' ⟨rfl,ρ',hx',hs'⟩;exact⟨rfl,ρ',hx.trans hx',hs'⟩
theorem Tri.wk{c:Code}{τ τ1 τ2 τ3:Fr}{h h1 h2 h3:H}{x:X}(a:Wk E N h0 τ h τ1 h1)(hc:Tri E N h0 c τ1 h1 x τ2 h2)(b:Wk E N h0 τ2 h2 τ3 h3):Tri E N h0 c τ h x τ3 h3:=by
 intro A s0 nn rd ρ0 w0 w ac hrd hn hr
 refine wpIn_mono (hc A s0 nn rd ρ0 w0 w ac hrd hn (a A s0 ρ0 w0 w ac hn hr)) ?_
 rintro e a' w' ⟨rfl,hr'⟩;exact⟨rfl,b A s0 ρ0 w0 w' a' hn hr'⟩
theorem Tri.seq{c d:Code}{τ τ1 τ':Fr}{h h1 h':H}{x:X}(hc:Tri E N h0 c τ h .normal τ1 h1)(hd:Tri E N h0 d τ1 h1 x τ' h'):Tri E N h0 (.seq c d) τ h x τ' h':=by
 intro A s0 nn rd ρ0 w0 w a hrd hn hr;refine wpIn_seq (wpIn_mono (hc A s0 nn rd ρ0 w0 w a (hrd.imp (fun y=>y) fun h=>by simp only[noRF,Bool.and_eq_true]at h;exact h.1) hn hr) ?_);rintro e a1 w1 ⟨rfl,hr1⟩;exact hd A s0 nn rd ρ0 w0 w1 a1 (hrd.imp (fun y=>y) fun h=>by simp only[noRF,Bool.and_eq_true]at h;exact h.2) hn hr1
theorem Tri.seq_stop{c d:Code}{τ τ':Fr}{h h':H}{x:X}(hc:Tri E N h0 c τ h x τ' h')(hx:x≠ .normal):Tri E N h0 (.seq c d) τ h x τ' h':=by
 intro A s0 nn rd ρ0 w0 w a hrd hn hr;refine wpIn_seq (wpIn_mono (hc A s0 nn rd ρ0 w0 w a (hrd.imp (fun y=>y) fun h=>by simp only[noRF,Bool.and_eq_true]at h;exact h.1) hn hr) ?_);rintro e a1 w1 ⟨rfl,hr1⟩
 cases x with
 |normal=>exact absurd rfl hx
 |ret=>exact⟨rfl,hr1⟩
 |exit id=>exact⟨rfl,hr1⟩
theorem Tri.block{id:Nat}{c:Code}{τ τ':Fr}{h h':H}{x:X}(hc:Tri E N h0 c τ h x τ' h'):Tri E N h0 (.block id c) τ h (x.inBlock id) τ' h':=by
 intro A s0 nn rd ρ0 w0 w a hrd hn hr;refine wpIn_block (wpIn_mono (hc A s0 nn rd ρ0 w0 w a (hrd.imp (fun y=>y) fun h=>by simpa only [noRF]using h) hn hr) ?_);rintro e a1 w1 ⟨rfl,hr1⟩
 cases x with
 |normal=>exact⟨rfl,hr1⟩
 |ret=>exact⟨rfl,hr1⟩
 |exit i=>
  simp only[X.exit',Exit.inBlock,X.inBlock]
  by_cases hi:i=id
  ·rw[if_pos hi];rw[if_pos hi];exact⟨rfl,hr1⟩
  ·rw[if_neg hi];rw[if_neg hi];exact⟨rfl,hr1⟩
theorem Tri.cond{c d:Code}{o:Operand}{b:Bool}{τ τ':Fr}{h h':H}{x:X}(hb:ev E τ o= .ok (.bool b))(hc:Tri E N h0 (match b with|true=>c|false=>d) τ h x τ' h'):Tri E N h0 (.cond o c d) τ h x τ' h':=by
 intro A s0 nn rd ρ0 w0 w a hrd hn hr;obtain⟨ρ,hx,hs⟩:=hr;have hv:=toV_eq (x:= .bool b) (by rfl) (ev_cr hs.fr hs.hr.glob' hb)
 cases b with
 |true=>exact wpIn_cond_true hv (hc A s0 nn rd ρ0 w0 w a (hrd.imp (fun y=>y) fun h=>by simp only[noRF,Bool.and_eq_true]at h;exact h.1) hn ⟨ρ,hx,hs⟩)
 |false=>exact wpIn_cond_false hv (hc A s0 nn rd ρ0 w0 w a (hrd.imp (fun y=>y) fun h=>by simp only[noRF,Bool.and_eq_true]at h;exact h.2) hn ⟨ρ,hx,hs⟩)
inductive TRounds (E:Env) (N:Nat) (h0:H) (c:Code):Fr→H→X→Fr→H→Prop
 |done {τ h x τ' h'} (hc:Tri E N h0 c τ h x τ' h') (hx:x≠ .normal):TRounds E N h0 c τ h x τ' h'
 |more {τ h τ1 h1 x τ' h'} (hc:Tri E N h0 c τ h .normal τ1 h1) (hr:TRounds E N h0 c τ1 h1 x τ' h'):TRounds E N h0 c τ h x τ' h'
theorem Tri.loop{c:Code}{τ τ':Fr}{h h':H}{x:X}(hr:TRounds E N h0 c τ h x τ' h'):Tri E N h0 (.loop c) τ h x τ' h':=by
 intro A s0 nn rd ρ0 w0 w a hrd hn hre
 have hrd':rd=none∨noRF c=true:=hrd.imp (fun y=>y) fun h=>by simpa only [noRF]using h
 have key: ∀{τ1:Fr} {h1:H} {x:X} {τ':Fr} {h':H},TRounds E N h0 c τ1 h1 x τ' h'→ ∃n,∀(w1:World) (a1:Act),Reach E A N s0 ρ0 w0 h0 τ1 h1 a1 w1→
   Code.roundsIn (fw rd) nn E.P c (fun e a' w'=>e=x.exit'∧Reach E A N s0 ρ0 w0 h0 τ' h' a' w') n a1 w1:=by
  clear hr hre;intro τ1 h1 x τ' h' hr1
  induction hr1 with
  |done hc hx=>
   rename_i τ1 h1 x τ' h';refine⟨1,fun w1 a1 hs1=>?_⟩;rw[roundsIn_succ]
   refine wpIn_mono (hc A s0 nn rd ρ0 w0 w1 a1 hrd' hn hs1) ?_
   rintro e a2 w2 ⟨rfl,hr2⟩
   cases x with
   |normal=>exact absurd rfl hx
   |ret=>exact⟨rfl,hr2⟩
   |exit id=>exact⟨rfl,hr2⟩
  |more hc hr2 ih=>
   obtain⟨n,ih⟩:=ih;refine⟨n+1,fun w1 a1 hs1=>?_⟩;rw[roundsIn_succ]
   refine wpIn_mono (hc A s0 nn rd ρ0 w0 w1 a1 hrd' hn hs1) ?_
   rintro e a2 w2 ⟨rfl,hr3⟩;exact ih w2 a2 hr3
 obtain⟨n,hn'⟩:=key hr;exact wpIn_loop_rounds n (hn' w a hre)
end
def sub:Code→List Nat→Code
 |c,[]=>c
 | .seq a b,i::p=>match i with|0=>sub a p|_=>sub b p
 | .cond _ a b,i::p=>match i with|0=>sub a p|_=>sub b p
 | .block _ b,_::p=>sub b p
 | .loop b,_::p=>sub b p
 |_,_::_=> .skip
theorem sub_nil(c:Code):sub c []=c:=by cases c<;>rfl
theorem sub_append: ∀(p q:List Nat) (c:Code),sub c (p++q)=sub (sub c p) q
 | [],q,c=>by rw[List.nil_append,sub_nil]
 |i::p,q,c=>by
  have hskip:sub .skip q= .skip:=by cases q<;>rfl
  cases c with
  |seq a b=>simp only[List.cons_append,sub];cases i<;>exact sub_append p q _
  |cond o a b=>simp only[List.cons_append,sub];cases i<;>exact sub_append p q _
  |block id b=>simp only[List.cons_append,sub];exact sub_append p q _
  |loop b=>simp only[List.cons_append,sub];exact sub_append p q _
  |_=>exact hskip.symm
abbrev Known:=List Nat→Option (Fr→H→T (X×Fr×H))
noncomputable def execK(X:SX)(K:Known)(N:Nat):Code→List Nat→Fr→H→T (AM.X×Fr×H)
 | .skip,_,τ,h=> .leaf (.normal,τ,h)
 | .label _,_,τ,h=> .leaf (.normal,τ,h)
 | .region _ ops draw,_,τ,h=>(regionT X N ops draw τ h).bind fun(τ,h)=> .leaf (.normal,τ,h)
 | .seq a b,p,τ,h=>(execK X K N a (p++ [0]) τ h).bind fun(x,τ,h)=>match x with
   | .normal=>execK X K N b (p++ [1]) τ h
   |x=> .leaf (x,τ,h)
 | .cond c a b,p,τ,h=>(ev X.E τ c).t.bind fun
   | .bool true=>execK X K N a (p++ [0]) τ h
   | .bool false=>execK X K N b (p++ [1]) τ h
   |_=> .fail
 | .block id b,p,τ,h=>match K p with
   |some k=>k τ h
   |none=>(execK X K N b (p++ [0]) τ h).bind fun(x,τ,h)=> .leaf (x.inBlock id,τ,h)
 | .loop b,p,τ,h=>match K p with
   |some k=>k τ h
   |none=>iterT (execK X K N b (p++ [0])) X.E.M τ h
 | .exit i,_,τ,h=> .leaf (.exit i,τ,h)
 | .ret,_,τ,h=> .leaf (.ret,τ,h)
 |_,_,_,_=> .fail
def KOK(E:Env)(N:Nat)(h0:H)(body:Code)(K:Known):Prop:= ∀p k,K p=some k→ ∀τ h x τ' h',(k τ h).run= .ok (x,τ',h')→Tri E N h0 (sub body p) τ h x τ' h'
theorem KOK.none{E:Env}{N:Nat}{h0:H}{body:Code}:KOK E N h0 body (fun _=>none):=fun p k h=>by cases h
theorem execK_ok{X:SX}(g:Ground X.E)(hcall:CallOK X.E X.calls){K:Known}{N:Nat}{h0:H}{body:Code}(hK:KOK X.E N h0 body K): ∀{c:Code} {p:List Nat} {τ:Fr} {h:H} {x:AM.X} {τ':Fr} {h':H},sub body p=c→(execK X K N c p τ h).run= .ok (x,τ',h')→Tri X.E N h0 c τ h x τ' h':=by
 intro c
 induction c with
 |skip=>intro p τ h x τ' h' hp hr;exact Tri.of_code (.of_run g hcall hr)
 |label=>intro p τ h x τ' h' hp hr;exact Tri.of_code (.of_run g hcall hr)
 |region id ops draw=>intro p τ h x τ' h' hp hr;exact Tri.of_code (.of_run g hcall hr)
 |seq a b iha ihb=>
  intro p τ h x τ' h' hp hr
  have hq:sub body (p++ [0])=a:=by rw[sub_append,hp];simp[sub]
  have h1:sub body (p++ [1])=b:=by rw[sub_append,hp];simp[sub]
  obtain⟨⟨x1,τ1,h1'⟩,h2,hr⟩:=T.bind_ok hr
  cases x1 with
  |normal=>exact(iha hq h2).seq (ihb h1 hr)
  |ret=>cases hr;exact(iha hq h2).seq_stop nofun
  |exit i=>cases hr;exact(iha hq h2).seq_stop nofun
 |cond o a b iha ihb=>
  intro p τ h x τ' h' hp hr
  have hq:sub body (p++ [0])=a:=by rw[sub_append,hp];simp[sub]
  have h1:sub body (p++ [1])=b:=by rw[sub_append,hp];simp[sub]
  obtain⟨v,h2,hr⟩:=R.tbind_ok hr;split at hr
  ·exact .cond (b:=true) h2 (iha hq hr)
  ·exact .cond (b:=false) h2 (ihb h1 hr)
  ·cases hr
 |block id b ih=>
  intro p τ h x τ' h' hp hr;simp only[execK]at hr;split at hr
  ·rename_i k hk
   have:=hK p k hk τ h x τ' h' hr
   rwa [hp]at this
  ·have hq:sub body (p++ [0])=b:=by rw[sub_append,hp];simp[sub]
   obtain⟨⟨x1,τ1,h1⟩,h2,hr⟩:=T.bind_ok hr;cases hr;exact(ih hq h2).block
 |loop b ih=>
  intro p τ h x τ' h' hp hr;simp only[execK]at hr;split at hr
  ·rename_i k hk
   have:=hK p k hk τ h x τ' h' hr
   rwa [hp]at this
  ·have hq:sub body (p++ [0])=b:=by rw[sub_append,hp];simp[sub]
   refine Tri.loop ?_
   have key: ∀(n:Nat) (τ:Fr) (h:H),(iterT (execK X K N b (p++ [0])) n τ h).run= .ok (x,τ',h')→TRounds X.E N h0 b τ h x τ' h':=by
    intro n
    induction n with
    |zero=>intro τ h hr;cases hr
    |succ n ihn=>
     intro τ h hr;obtain⟨⟨x1,τ1,h1⟩,h2,hr⟩:=T.bind_ok hr
     cases x1 with
     |normal=>exact .more (ih hq h2) (ihn τ1 h1 hr)
     |ret=>cases hr;exact .done (ih hq h2) nofun
     |exit i=>cases hr;exact .done (ih hq h2) nofun
   exact key _ _ _ hr
 |exit i=>intro p τ h x τ' h' hp hr;exact Tri.of_code (.of_run g hcall hr)
 |ret=>intro p τ h x τ' h' hp hr;exact Tri.of_code (.of_run g hcall hr)
 |_=>intro p τ h x τ' h' hp hr;cases hr
end Go.Proofs.YthnajefdiljneaaDoor.AM
end
section
-- SQUEEZED
/- Names of new memory may be changed; what is forgotten of a state. -/
namespace Go.Proofs.YthnajefdiljneaaDoor.AM
set_option linter.unusedVariables false
set_option linter.unusedSimpArgs false
set_option linter.unusedSectionVars false
mutual
def ren(κ:Nat→Nat):AV→AV
 | .ptr b off=> .ptr (κ b) off
 | .eptr b i sz off=> .eptr (κ b) i sz off
 | .fp l off=> .fp (rens κ l) off
 | .sl b off len sz c=> .sl (κ b) off len sz c
 | .vsl b off len c=> .vsl (κ b) off len c
 | .lst sz l tl=> .lst sz (rens κ l) (match tl with| .own t=> .own (κ t)| .clip=> .clip| .open_=> .open_)
 | .map b=> .map (κ b)
 | .clo f l m=> .clo f (rens κ l) (rens κ m)
 | .agg l=> .agg (rens κ l)
 | .tup l=> .tup (rens κ l)
 |v=>v
def rens(κ:Nat→Nat):List AV→List AV
 | []=> []
 |x::xs=>ren κ x::rens κ xs
end
def renP(κ:Nat→Nat)(e:AV×AV):AV×AV:=(ren κ e.1,ren κ e.2)
def renB(κ:Nat→Nat):Blk→Blk
 | .var l=> .var (rens κ l)
 | .arr sz l=> .arr sz (rens κ l)
 | .map es=> .map (es.map (renP κ))
 |b=>b
theorem rens_map(κ:Nat→Nat): ∀l:List AV,rens κ l=l.map (ren κ)
 | []=>rfl
 |x::xs=>by rw[rens,rens_map κ xs];rfl
theorem rens_length(κ:Nat→Nat)(l:List AV):(rens κ l).length=l.length:=by rw[rens_map];simp
theorem rens_get{κ:Nat→Nat}{l:List AV}{j:Nat}{y:AV}(h:l[j]?=some y):(rens κ l)[j]?=some (ren κ y):=by rw[rens_map,List.getElem?_map,h];rfl
theorem ren_cells(κ:Nat→Nat)(x:AV):(ren κ x).cells=rens κ x.cells:=by
 cases x<;>simp [ren,AV.cells,rens]
theorem CR.down{F:Area}{ρ ρ':Rho}{w:World}{κ:Nat→Nat}(hρ: ∀b,ρ' b=ρ (κ b)){v:Value}{z:AV}(h:CR F ρ w v z): ∀y,z=ren κ y→CR F ρ' w v y:=by
 induction h with
 |bool b=>intro y hy;cases y<;>simp [ren]at hy;subst hy;exact .bool _
 |int k n=>intro y hy;cases y<;>simp [ren]at hy;obtain⟨rfl,rfl⟩:=hy;exact .int _ _
 |str s=>intro y hy;cases y<;>simp [ren]at hy;subst hy;exact .str _
 |nilp=>intro y hy;cases y<;>simp [ren]at hy;exact .nilp
 |ptr h=>intro y hy;cases y<;>simp [ren]at hy;obtain⟨rfl,rfl⟩:=hy;exact .ptr (by rw[hρ];exact h)
 |eptr h ho=>intro y hy;cases y<;>simp [ren]at hy;obtain⟨rfl,rfl,rfl,rfl⟩:=hy;exact .eptr (by rw[hρ];exact h) ho
 |fp hb hF vs h1 h2 ho ih=>
  intro y hy
  cases y<;>simp [ren]at hy
  obtain⟨rfl,rfl⟩:=hy;exact .fp hb (by rw[rens_length]at hF;exact hF) vs (fun j y hy=>h1 j _ (rens_get hy)) (fun j y hy=>ih j _ (rens_get hy) y rfl) ho
 |nils=>intro y hy;cases y<;>simp [ren]at hy;exact .nils
 | @lst0 base sz tl ht=>
   intro y hy
   cases y<;>simp [ren]at hy
   rename_i sz' l tl';obtain⟨rfl,hl,hy⟩:=hy
   obtain rfl:l= []:=by cases l with
    |nil=>rfl
    |cons a l=>simp [rens]at hl
   exact .lst0 (fun t e=>by subst e;exact ht (κ t) hy)
 |sl h hb hr hl hc ho=>intro y hy;cases y<;>simp [ren]at hy;obtain⟨rfl,rfl,rfl,rfl,rfl⟩:=hy;exact .sl (by rw[hρ];exact h) hb hr hl hc ho
 |vsl h hl hc ho=>intro y hy;cases y<;>simp [ren]at hy;obtain⟨rfl,rfl,rfl,rfl⟩:=hy;exact .vsl (by rw[hρ];exact h) hl hc ho
 |lst hb hn hsz hF vs h1 h2 hl hr hc ht ih=>
  intro y hy
  cases y<;>simp [ren]at hy
  rename_i sz' l tl';obtain⟨rfl,rfl,rfl⟩:=hy;rw[rens_length]at hn hF hl ht;refine .lst hb hn (fun x hx=>?_) hF vs (fun i x j y hx hy=>?_) (fun i x j y hx hy=>?_) hl hr (fun e=>?_) (fun t e hlt=>?_)
  ·have:=hsz (ren κ x) (by rw[rens_map];exact List.mem_map_of_mem hx)
   rw[ren_cells,rens_length]at this;exact this
  ·exact h1 i _ j _ (rens_get hx) (by rw[ren_cells];exact rens_get hy)
  ·exact ih i _ j _ (rens_get hx) (by rw[ren_cells];exact rens_get hy) y rfl
  ·subst e;have:=hc rfl;rw[rens_length]at this;exact this
  ·subst e;rw[hρ];exact ht (κ t) rfl hlt
 |nilm=>intro y hy;cases y<;>simp [ren]at hy;exact .nilm
 |map h=>intro y hy;cases y<;>simp [ren]at hy;subst hy;exact .map (by rw[hρ];exact h)
 |nilf=>intro y hy;cases y<;>simp [ren]at hy;exact .nilf
 |clo hf hc vs us h1 h2 h3 h4 ih1 ih2=>
  intro y hy
  cases y<;>simp [ren]at hy
  obtain⟨rfl,rfl,rfl⟩:=hy;rw[rens_length]at hf hc;exact .clo hf hc vs us (fun j y hy=>h1 j _ (rens_get hy)) (fun j y hy=>ih1 j _ (rens_get hy) y rfl) (fun j y hy=>h3 j _ (rens_get hy)) (fun j y hy=>ih2 j _ (rens_get hy) y rfl)
 |nili=>intro y hy;cases y<;>simp [ren]at hy;exact .nili
 |agg hn vs h1 h2 ih=>
  intro y hy
  cases y<;>simp [ren]at hy
  subst hy;rw[rens_length]at hn;exact .agg hn vs (fun j y hy=>h1 j _ (rens_get hy)) (fun j y hy=>ih j _ (rens_get hy) y rfl)
 |tup hn vs h1 h2 ih=>
  intro y hy
  cases y<;>simp [ren]at hy
  subst hy;rw[rens_length]at hn;exact .tup hn vs (fun j y hy=>h1 j _ (rens_get hy)) (fun j y hy=>ih j _ (rens_get hy) y rfl)
theorem CR.less{F F':Area}{ρ:Rho}{w:World}(hF: ∀B off,F' B off→F B off){v:Value}{y:AV}(h:CR F ρ w v y):CR F' ρ w v y:=by
 induction h with
 |bool b=>exact .bool b
 |int k n=>exact .int k n
 |str s=>exact .str s
 |nilp=>exact .nilp
 |ptr h=>exact .ptr h
 |eptr h ho=>exact .eptr h ho
 |fp hb h0 vs h1 h2 ho ih=>exact .fp hb (fun j hj hh=>h0 j hj (hF _ _ hh)) vs h1 ih ho
 |nils=>exact .nils
 |lst0 ht=>exact .lst0 ht
 |sl h hb hr hl hc ho=>exact .sl h hb hr hl hc ho
 |vsl h hl hc ho=>exact .vsl h hl hc ho
 |lst hb hn hsz h0 vs h1 h2 hl hr hc ht ih=>exact .lst hb hn hsz (fun j hj hh=>h0 j hj (hF _ _ hh)) vs h1 ih hl hr hc ht
 |nilm=>exact .nilm
 |map h=>exact .map h
 |nilf=>exact .nilf
 |clo hf hc vs us h1 h2 h3 h4 ih1 ih2=>exact .clo hf hc vs us h1 ih1 h3 ih2
 |nili=>exact .nili
 |agg hn vs h1 h2 ih=>exact .agg hn vs h1 ih
 |tup hn vs h1 h2 ih=>exact .tup hn vs h1 ih
def Le(y z:AV):Prop:= ∀(F:Area) (ρ:Rho) (w:World) (v:Value),CR F ρ w v y→CR F ρ w v z
theorem Le.refl(y:AV):Le y y:=fun _ _ _ _ h=>h
theorem Le.nils{sz:Nat}{tl:Tl}(h: ∀t,tl≠ .own t):Le .nils (.lst sz [] tl):=fun _ _ _ _ hc=>by cases hc;exact .lst0 h
theorem Le.open_{sz:Nat}{l:List AV}{tl:Tl}:Le (.lst sz l tl) (.lst sz l .open_):=fun F ρ w v hc=>by
 cases hc with
 |lst0 ht=>exact .lst0 nofun
 |lst hb hn hsz hF vs h1 h2 hl hr hc ht=>exact .lst hb hn hsz hF vs h1 h2 hl hr nofun nofun
def Les(l m:List AV):Prop:=l.length=m.length∧ ∀(j:Nat) a b,l[j]?=some a→m[j]?=some b→Le a b
theorem Les.refl(l:List AV):Les l l:=⟨rfl,fun j a b h h'=>by rw[h]at h';cases h';exact Le.refl a⟩
theorem Les.nil:Les [] []:=Les.refl []
theorem Les.cons{x y:AV}{l m:List AV}(h:Le x y)(hs:Les l m):Les (x::l) (y::m):=by
 refine⟨by simp[hs.1],fun j a b ha hb=>?_⟩
 cases j with
 |zero=>simp at ha hb;subst ha;subst hb;exact h
 |succ j=>exact hs.2 j a b (by simpa using ha) (by simpa using hb)
theorem Les.crs{l m:List AV}(h:Les l m){F:Area}{ρ:Rho}{w:World}{vs:List Value}(hr:CRs F ρ w vs l):CRs F ρ w vs m:=
 ⟨hr.1.trans h.1,fun j v b hv hb=>by
  have hj:j<l.length:=by rw[h.1];exact lt_of_getl hb
  exact h.2 j _ b (List.getElem?_eq_getElem hj) hb F ρ w v (hr.2 j v _ hv (List.getElem?_eq_getElem hj))⟩
theorem Le.tup{l m:List AV}(h:Les l m):Le (.tup l) (.tup m):=fun F ρ w v hc=>by
 obtain⟨cs,rfl,hcs⟩:=hc.tup_inv;exact CR.tup_of (h.crs hcs)
def LeB(x y:Blk):Prop:=x.alive=y.alive∧(y= .hole→x= .hole)∧(x= .hole→y= .hole)∧ ∀(F:Area) (ρ:Rho) (w:World) (B k:Nat),BR F ρ w B k x→BR F ρ w B k y
theorem LeB.refl(x:Blk):LeB x x:=⟨rfl,fun h=>h,fun h=>h,fun _ _ _ _ _ h=>h⟩
theorem BR.down{F:Area}{ρ ρ':Rho}{w:World}{κ:Nat→Nat}(hρ: ∀b,ρ' b=ρ (κ b)){B k:Nat}{x:Blk}(h:BR F ρ w B k (renB κ x)):BR F ρ' w B k x:=by
 have rows: ∀{vs:List Value} {l:List AV},CRs F ρ w vs (rens κ l)→CRs F ρ' w vs l:=fun{vs l} hr=>⟨by rw[hr.1,rens_length],fun j v y hv hy=>(hr.2 j v _ hv (rens_get hy)).down hρ y rfl⟩
 cases x with
 |var l=>obtain⟨h0,cs,e,fz,h1,h2,h3⟩:=h;exact⟨h0,cs,e,fz,h1,h2,rows h3⟩
 |arr sz l=>
  obtain⟨h0,cs,e,fz,h1,h2,h3,h4,h5⟩:=h;rw[rens_length]at h3
  have hfl:flat (rens κ l)=rens κ (flat l):=by
   clear h3 h4 h5
   induction l with
   |nil=>rfl
   |cons x l ih=>simp only[flat,rens,List.flatMap_cons]at ih ⊢;rw[ren_cells,ih,rens_map,rens_map,rens_map,List.map_append]
  refine⟨h0,cs,e,fz,h1,h2,h3,fun x hx=>?_,?_⟩
  ·have:=h4 (ren κ x) (by rw[rens_map];exact List.mem_map_of_mem hx)
   rw[ren_cells,rens_length]at this;exact this
  ·rw[rens_length,hfl]at h5;exact rows h5
 |map es=>
  obtain⟨h0,ents,clock,h1,h2,h3⟩:=h;simp only[List.length_map]at h2;refine⟨h0,ents,clock,h1,h2,fun i e x he hx=>?_⟩;have:=h3 i e (renP κ x) he (by rw[List.getElem?_map,hx];rfl);exact⟨this.1.down hρ _ rfl,this.2.down hρ _ rfl⟩
 |tail=>exact h
 |dead=>trivial
 |hole=>trivial
theorem BR.less{F F':Area}{ρ:Rho}{w:World}(hF: ∀B off,F' B off→F B off){B k:Nat}{x:Blk}(h:BR F ρ w B k x):BR F' ρ w B k x:=by
 have rows: ∀{vs:List Value} {l:List AV},CRs F ρ w vs l→CRs F' ρ w vs l:=fun{vs l} hr=>⟨hr.1,fun j v y hv hy=>(hr.2 j v _ hv hy).less hF⟩
 cases x with
 |var l=>obtain⟨h0,cs,e,fz,h1,h2,h3⟩:=h;exact⟨h0,cs,e,fz,h1,h2,rows h3⟩
 |arr sz l=>obtain⟨h0,cs,e,fz,h1,h2,h3,h4,h5⟩:=h;exact⟨h0,cs,e,fz,h1,h2,h3,h4,rows h5⟩
 |map es=>obtain⟨h0,ents,clock,h1,h2,h3⟩:=h;exact⟨h0,ents,clock,h1,h2,fun i e x he hx=>⟨(h3 i e x he hx).1.less hF,(h3 i e x he hx).2.less hF⟩⟩
 |tail=>exact h
 |dead=>trivial
 |hole=>trivial
theorem renB_alive(κ:Nat→Nat)(x:Blk):(renB κ x).alive=x.alive:=by cases x<;>rfl
structure Renamed (n0:Nat) (κ:Nat→Nat) (τ:Fr) (h:H) (τ':Fr) (h':H):Prop where
 old: ∀b,b<n0→κ b=b
 new: ∀b,n0≤b→n0≤κ b
 out: ∀b,h'.length≤b→h.length≤κ b
 blk: ∀i x,h'[i]?=some x→x≠ .hole∧ ∃y,h[κ i]?=some y∧LeB y (renB κ x)
 inj: ∀i j x y,h'[i]?=some x→h'[j]?=some y→x.alive=true→y.alive=true→κ i=κ j→i=j
 fr: ∀i,τ' i=top∨Le (τ i) (ren κ (τ' i))∧ ∀sz l,τ i≠ .fsl sz l
theorem Wk.ren{E:Env}{N:Nat}{h0:H}(hG: ∀i cs,E.G i=some cs→noRefs cs=true){κ:Nat→Nat}{τ τ':Fr}{h h':H}(hk:Renamed h0.length κ τ h τ' h'):Wk E N h0 τ h τ' h':=by
 rintro A s0 ρ0 w0 w a hn ⟨ρ,hx,hs⟩
 have hr:=hs.hr
 refine⟨fun b=>ρ (κ b),?_,?_⟩
 all_goals
  have hown: ∀B off,Own (fun b=>ρ (κ b)) (view h') B off→Own ρ (view h) B off:=by
   rintro B off ⟨b,k,x,h1,h2,h3,h4⟩;obtain⟨_,y,hy,hl⟩:=hk.blk b x h2;exact⟨κ b,k,y,h1,hy,by rw[hl.1,renB_alive];exact h3,h4⟩
 ·refine⟨fun b p hb=>?_,fun B off ho=>hx.new B off (hown B off ho),fun b B k hb=>?_,hx.st,hx.size,hx.keep,hx.keepo⟩
  ·have hb0:b<h0.length:=by
    rcases Nat.lt_or_ge b h0.length with h1|h1
    ·exact h1
    ·rw[hn b h1]at hb;cases hb
   rw[hk.old b hb0];exact hx.sub b p hb
  ·rcases Nat.lt_or_ge b h0.length with h1|h1
   ·rw[hk.old b h1]at hb;exact hx.newρ b B k hb
   ·rcases hx.newρ (κ b) B k hb with h2|h2
    ·rw[hn _ (hk.new b h1)]at h2;cases h2
    ·exact .inr h2
 ·have hF: ∀B off,Forb A (fun b=>ρ (κ b)) (view h') B off→Forb A ρ (view h) B off:=fun B off hf=>hf.imp (hown B off) (fun h=>h)
  refine⟨⟨fun b hb=>?_,fun b x hb hne=>?_,fun b hb=>?_,fun b b' B k k' x x' h1 h2 h3 h4 h5 h6=>?_,fun B off ha=>⟨(hr.avo B off ha).1,fun ho=>(hr.avo B off ha).2 (hown B off ho)⟩,fun i cs hi=>?_⟩,fun i=>?_,hs.sz,?_⟩
  ·refine hr.dom _ ?_
   have:h'.length≤b:=by simpa [view]using hb
   have:=hk.out b this
   simpa [view]using this
  ·obtain⟨_,y,hy,hl⟩:=hk.blk b x hb
   have hyne:y≠ .hole:=fun e=>by
    have:=hl.2.2.1 e
    cases x<;>simp [renB]at this hne
   obtain⟨B,k,h1,h2,h3⟩:=hr.blk (κ b) y hy hyne;exact⟨B,k,h1,h2,(BR.down (κ:=κ) (ρ:=ρ) (fun _=>rfl) (hl.2.2.2 _ _ _ _ _ h3)).less hF⟩
  ·exact absurd rfl (hk.blk b _ hb).1
  ·obtain⟨_,y,hy,hl⟩:=hk.blk b x h3
   obtain⟨_,y',hy',hl'⟩:=hk.blk b' x' h4;exact hk.inj b b' x x' h3 h4 h5 h6 (hr.sep (κ b) (κ b') B k k' y y' h1 h2 hy hy' (by rw[hl.1,renB_alive];exact h5) (by rw[hl'.1,renB_alive];exact h6))
  ·exact((hr.glob i cs hi).less hF).free _ (by simp only[noRef];exact hG i cs hi)
  ·rcases hk.fr i with h1|⟨h1,h2⟩
   ·exact .inl ⟨0,[],h1⟩
   ·have hc:=(hs.fr i).resolve_left fun⟨sz,l,e⟩=>h2 sz l e
    exact .inr ((CR.down (κ:=κ) (ρ:=ρ) (fun _=>rfl) (h1 _ _ _ _ hc) (τ' i) rfl).less hF)
  ·exact⟨hs.de.1,hs.de.2.1,fun d hd=>by
    obtain⟨D,e1,e2,e3,e4⟩:=hs.de.2.2 d hd
    exact⟨D,e1,e2,e3,fun off ho=>e4 off (hown _ _ ho)⟩⟩
end Go.Proofs.YthnajefdiljneaaDoor.AM
namespace Go.Proofs.YthnajefdiljneaaDoor.AM
set_option linter.unusedVariables false
set_option linter.unusedSimpArgs false
set_option linter.unusedSectionVars false
def look:List (Nat×AV)→Nat→AV
 | [],_=>top
 |(j,v)::l,i=>match Nat.beq i j with
  |true=>v
  |false=>look l i
abbrev frm(l:List (Nat×AV)):Fr:=look l
theorem look_zip(τ:Fr): ∀(L:List Nat) (i:Nat),look (L.zip (L.map τ)) i=τ i∨look (L.zip (L.map τ)) i=top
 | [],i=> .inr rfl
 |j::L,i=>by
  simp only[List.map_cons,List.zip_cons_cons,look];split
  ·rename_i h;rw[Nat.eq_of_beq_eq_true h];exact .inl rfl
  ·exact look_zip τ L i
theorem Wk.frm{E:Env}{N:Nat}{h0:H}{τ τ':Fr}{h:H}(hf: ∀i,τ' i=τ i∨τ' i=top):Wk E N h0 τ h τ' h:=by
 rintro A s0 ρ0 w0 w a hn ⟨ρ,hx,hs⟩;refine⟨ρ,hx,hs.hr,fun i=>?_,hs.sz,hs.de⟩
 rcases hf i with h1|h1
 ·rw[h1];exact hs.fr i
 ·rw[h1];exact .inl ⟨0,[],rfl⟩
noncomputable def obsK(X:SX)(K:Known)(N:Nat)(c:Code)(p:List Nat)(τ:Fr)(h:H)(L:List Nat):T (AM.X×List AV×H):=(execK X K N c p τ h).bind fun r=> .leaf (r.1,L.map r.2.1,r.2.2)
theorem Tri.of_obs{X:SX}(g:Ground X.E)(hcall:CallOK X.E X.calls){K:Known}{N:Nat}{h0:H}{body:Code}(hK:KOK X.E N h0 body K){c:Code}{p:List Nat}(hp:sub body p=c){τ:Fr}{h:H}{L:List Nat}{x:AM.X}{vs:List AV}{h':H}
  (hr:(obsK X K N c p τ h L).run= .ok (x,vs,h')):Tri X.E N h0 c τ h x (frm (L.zip vs)) h':=by
 obtain⟨⟨x1,τ1,h1⟩,h2,hr⟩:=T.bind_ok hr;cases hr;exact .wk .refl (execK_ok g hcall hK hp h2) (.frm (look_zip τ1 L))
def one:List AV→AV
 | [v]=>v
 |vs=> .tup vs
theorem Con.of_tri{E:Env}{f:FuncId}{fn:Func}(hfn:E.P.funcs[f]?=some fn){c:Code}(hb:fn.body=some c)(hname:(fn.name== "runtime.NumGoroutine")=false){args:List AV}{h:H}{x:X}{τ:Fr}{h':H}{N:Nat}(hN:N=max fn.ntmps args.length)
  (hc:Tri E N h c (initFr args) h x τ h') (hx: ∀i,x≠ .exit i) {rs:List AV} (hres:resA E τ h' fn.results.toList= .ok rs):Con E f args h (one rs) h':=by
 subst hN;intro A ρ w vs hr hargs;refine⟨fun W=>?_,?_⟩
 ·unfold callFunc
  simp only[Sem.run_bind,run_program,Result.andThen_ok,hfn];rw[if_neg (by simp[hname])];simp[hb]
 ·have hl:vs.size=args.length:=by simpa using hargs.1
  have hst:St E A ρ w {tmps:=vs++Array.replicate (fn.ntmps-vs.size) Go.undef,defers:= []} (initFr args) (view h) (max fn.ntmps args.length) w.heap.size:=
   ⟨hr,init_frame hargs fn.ntmps,by simp;omega,DeOK.nil (Nat.le_refl _)⟩
  have hw:=hc A w.heap.size 0 none ρ w w _ (.inl rfl) (fun b hb=>hr.dom b (by simpa [view]using hb)) ⟨ρ,Ext.refl _ _ _,hst⟩
  refine callsIn_wide.1 (callsIn_of_wp_marks (F:=Fence.wide) (n:=0) hfn hb trivial (wpIn_mono hw ?_) rfl);rintro e a' w2 ⟨rfl,ρ',hx2,hst2⟩
  have fin: ∀(w':World),HR E.G A ρ' w' (view h')→FRel (Forb A ρ' (view h')) ρ' w' a'.tmps τ→Ext (Own ρ (view h)) ρ w (Own ρ' (view h')) ρ' w'→
    ∃v,(results fn a'.tmps).run E.P w'= .ok v w'∧ ∃v1 ρ',Ending.returned v= .returned v1∧Ext (Own ρ (view h)) ρ w (Own ρ' (view h')) ρ' w'∧HR E.G A ρ' w' (view h')∧CR (Forb A ρ' (view h')) ρ' w' v1 (one rs):=by
   intro w' hr' hf' hx';obtain⟨us,h2,h3⟩:=resA_run hr' hf' hres;refine⟨if h:us.length=1 then us[0]else .tuple us.toArray,?_,_,ρ',rfl,hx',hr',?_⟩
   ·rw[results_eq,Sem.run_bind,Array.mapM_eq_mapM_toList,Sem.run_map,h2]
    simp only[Result.andThen_ok,Sem.run_pure]
    congr 1
   ·cases rs with
    |nil=>
     obtain rfl:=List.eq_nil_of_length_eq_zero h3.1;exact .tup_of .nil
    |cons y ys=>
     cases us with
     |nil=>have:=h3.1;simp at this
     |cons u us=>
      cases ys with
      |nil=>
       obtain rfl:us= []:=by have:=h3.1;simpa using this
       simpa [one]using h3.head
      |cons y2 ys=>
       have hlen: ¬(u::us).length=1:=by have:=h3.1;simp at this ⊢;intro e;simp[e]at this
       rw[dif_neg hlen];exact .tup_of (by simpa using h3)
  cases x with
  |normal=>exact leaves_ok fin a'.defers w2 hst2.de hst2.hr hst2.fr hx2
  |ret=>exact leaves_ok fin a'.defers w2 hst2.de hst2.hr hst2.fr hx2
  |exit i=>exact absurd rfl (hx i)
theorem Con.args{E:Env}{f:FuncId}{args args':List AV}{h h':H}{r:AV}(hc:Con E f args h r h')(hl:Les args' args):Con E f args' h r h':=fun A ρ w vs hr hargs=>hc A ρ w vs hr (hl.crs hargs)
end Go.Proofs.YthnajefdiljneaaDoor.AM
namespace Go.Proofs.YthnajefdiljneaaDoor.AM
open Go.RowKit
set_option linter.unusedVariables false
set_option linter.unusedSimpArgs false
set_option linter.unusedSectionVars false
def aggB'(P:Program)(t:TypeId):Bool:=match P.underlying t with
 |some (.struct _)|some (.array _ _)=>true
 |_=>false
def rowAV(P:Program)(e:TypeId)(x:List AV):AV:=match aggB' P e with
 |true=> .agg x
 |false=>x.headD undef
def Shp(P:Program):Nat→TypeId→List AV→Prop
 |0,_,_=>False
 |n+1,t,l=>match P.underlying t with
  |some .bool=> ∃b,l= [.bool b]
  |some (.int k)=> ∃m,l= [.int k m]∧(Lit.int k m).wf=true
  |some .string=> ∃s,l= [.str s]∧s.size≤140737488351232
  |some (.slice e)=> ∃xs:List (List AV),l= [.lst (P.cellsOf e) (xs.map (rowAV P e)) .open_]∧xs.length*P.bytesOf e≤140737488351232∧ ∀x,x∈xs→Shp P n e x
  |some (.struct fs)=>l.length=P.cellsOf t∧ ∀f,f∈fs.toList→Shp P n f.type ((l.drop f.offset).take (P.cellsOf f.type))
  |_=>False
def tiles(P:Program):List Field→Nat→Option Nat
 | [],off=>some off
 |f::fs,off=>match f.offset==off with
  |true=>tiles P fs (off+P.cellsOf f.type)
  |false=>none
def okT(P:Program):Nat→TypeId→Bool
 |0,_=>false
 |n+1,t=>match P.underlying t with
  |some .bool|some (.int _)|some .string=>P.cellsOf t==1
  |some (.slice e)=>P.cellsOf t==1&&okT P n e&&decide (0<P.cellsOf e)
  |some (.struct fs)=>fs.toList.all (fun f=>okT P n f.type)&&tiles P fs.toList 0==some (P.cellsOf t)
  |_=>false
theorem list_choose{α:Type}{Q:Nat→α→Prop}: ∀n:Nat,(∀i,i<n→ ∃y,Q i y)→ ∃xs:List α,xs.length=n∧ ∀i p,xs[i]?=some p→Q i p
 |0,_=>⟨[],rfl,fun i p h=>by simp at h⟩
 |n+1,h=>by
  obtain⟨xs,hl,hx⟩:=list_choose n (fun i hi=>h i (by omega));obtain⟨y,hy⟩:=h n (by omega);refine⟨xs++ [y],by simp[hl],fun i p hp=>?_⟩
  rcases Nat.lt_or_ge i xs.length with hi|hi
  ·rw[List.getElem?_append_left hi]at hp;exact hx i p hp
  ·have:i=xs.length:=by
    have:=(List.getElem?_eq_some_iff.1 hp).1;simp at this;omega
   subst this;simp at hp;subst hp;rw[hl];exact hy
theorem cells_get{w:World}{base:Nat}{a:Addr}{n:Nat}{cs:List Value}(h:w.cells? base a n=some cs):cs.length=n∧ ∀i u,cs[i]?=some u→w.cell? (a.add i)=some u:=by
 obtain⟨_,hl,hi⟩:=World.cells?_some h;refine⟨hl,fun i u hu=>?_⟩;have:=(List.getElem?_eq_some_iff.1 hu).1;rw[hi i (by omega)];exact hu
theorem weights_elem{P:Program}{H:Type}{e:TypeId}{elems:List (DataW H)}{i:Nat}{d:DataW H}(h:elems[i]?=some d): ∀n∈d.weights P e,n∈DataW.weightsAll P e elems:=by
 induction elems generalizing i with
 |nil=>simp at h
 |cons x xs ih=>
  intro n hn;unfold DataW.weightsAll
  cases i with
  |zero=>simp at h;subst h;exact List.mem_append_left _ hn
  |succ i=>simp at h;exact List.mem_append_right _ (ih h n hn)
section
variable {H:Type} {enc:TypeId×Value→H} {P:Program} {w:World} {base:Nat} {held:Bool} {F:Area} {ρ:Rho}
theorem fields_ok{n:Nat}{cs:List Value}: ∀(fs:List Field) (off tot:Nat),tiles P fs off=some tot→tot≤cs.length→
  (∀f,f∈fs→ ∃row,CRs F ρ w ((cs.drop f.offset).take (P.cellsOf f.type)) row∧Shp P n f.type row∧row.length=P.cellsOf f.type)→
  off≤tot∧ ∃l,CRs F ρ w ((cs.drop off).take (tot-off)) l∧l.length=tot-off∧ ∀f,f∈fs→off≤f.offset∧Shp P n f.type ((l.drop (f.offset-off)).take (P.cellsOf f.type)):=by
 intro fs
 induction fs with
 |nil=>
  intro off tot ht hl _;cases ht;exact⟨Nat.le_refl _,[],by simpa using CRs.nil,by simp,fun f h=>by cases h⟩
 |cons f fs ih=>
  intro off tot ht hl hx;simp only[tiles]at ht;split at ht
  ·rename_i hoff
   simp only[beq_iff_eq]at hoff;obtain⟨row,r1,r2,r3⟩:=hx f (List.mem_cons_self ..);obtain⟨h1,l,h2,h3,h4⟩:=ih (off+P.cellsOf f.type) tot ht hl (fun g hg=>hx g (List.mem_cons_of_mem _ hg));refine⟨by omega,row++l,?_,by simp[r3,h3];omega,fun g hg=>?_⟩
   ·rw[hoff]at r1
    have e1:(cs.drop off).take (tot-off)=(cs.drop off).take (P.cellsOf f.type)++(cs.drop (off+P.cellsOf f.type)).take (tot-(off+P.cellsOf f.type)):=by
     have e2:tot-off=P.cellsOf f.type+(tot-(off+P.cellsOf f.type)):=by omega
     rw[e2,List.take_add,List.drop_drop]
    rw[e1];exact r1.append h2
   ·rcases List.mem_cons.1 hg with rfl|hg
    ·refine⟨by omega,?_⟩
     rw[hoff,Nat.sub_self,List.drop_zero,List.take_append_of_le_length (by omega),←r3,List.take_length];exact r2
    ·obtain⟨g1,g2⟩:=h4 g hg
     refine⟨by omega,?_⟩
     have e3:g.offset-off=row.length+(g.offset-(off+P.cellsOf f.type)):=by omega
     rw[e3,List.drop_append,List.drop_eq_nil_of_le (Nat.le_add_right ..),List.nil_append,Nat.add_sub_cancel_left];exact g2
  ·cases ht
theorem rowAV_cells{e:TypeId}{x:List AV}{n:Nat}(hs:Shp P n e x)(hk:okT P n e=true)(hl:x.length=P.cellsOf e):(rowAV P e x).cells=x:=by
 unfold rowAV;split
 ·rfl
 ·rename_i ha
  cases n with
  |zero=>cases hk
  |succ n=>
   simp only[Shp]at hs;unfold aggB' at ha
   cases hu:P.underlying e with
   |none=>rw [hu]at hs;exact hs.elim
   |some d=>
    rw[hu]at hs ha
    cases d<;>simp only at hs ha
    all_goals first
     |exact hs.elim
     |(obtain⟨b,rfl⟩:=hs;rfl)
     |(obtain⟨b,rfl,_⟩:=hs;rfl)
     |cases ha
theorem open_ok(hF: ∀B off,¬F B off): ∀(n:Nat) (t:TypeId),okT P n t=true→ ∀(m:Nat) (cs:List Value) (x:DataW H×List MemPlace),DataW.trod enc P w base (fun _=>true) held m t cs=some x→(∀k∈x.1.weights P t,k≤reachBytes)→
  ∃l,CRs F ρ w cs l∧Shp P n t l∧l.length=P.cellsOf t:=by
 intro n
 induction n with
 |zero=>intro t h;cases h
 |succ n ih=>
  intro t hk m cs x hx hw;simp only[okT]at hk
  cases hu:P.underlying t with
  |none=>rw [hu]at hk;cases hk
  |some d=>
   rw[hu]at hk;simp only[Shp,hu]
   cases d with
   |bool=>
    obtain⟨b,rfl,rfl⟩:=DataW.trod_bool hu hx;simp only[beq_iff_eq]at hk;exact⟨[.bool b], .cons (.bool _) .nil,⟨b,rfl⟩,hk.symm⟩
   |int k=>
    obtain⟨q,rfl,rfl,hwf⟩:=DataW.trod_int hu hx;simp only[beq_iff_eq]at hk;exact⟨[.int k q], .cons (.int _ _) .nil,⟨q,rfl,hwf⟩,hk.symm⟩
   |string=>
    obtain⟨s,rfl,rfl,_⟩:=DataW.trod_string hu hx;simp only[beq_iff_eq]at hk;refine⟨[.str s], .cons (.str _) .nil,⟨s,rfl,?_⟩,hk.symm⟩;have:=hw s.data.toList.length (by simp[DataW.weights]);rw[Array.length_toList]at this;exact this
   |struct fs=>
    simp only[Bool.and_eq_true,List.all_eq_true,beq_iff_eq]at hk;obtain⟨xs,q,rfl,rfl,hlen,hxl,hi⟩:=DataW.trod_struct hu hx
    have hw': ∀k∈DataW.weightsEach P (fs.toList.map (·.type)) (xs.map (·.1)),k≤reachBytes:=by
     intro k hkk
     refine hw k ?_
     simp only[DataW.weights];rw[hu];exact hkk
    obtain⟨_,l,h1,h2,h3⟩:=fields_ok (F:=F) (ρ:=ρ) (w:=w) (n:=n) (cs:=cs) fs.toList 0 (P.cellsOf t) hk.2 (by omega) (fun f hf=>by
     obtain⟨i,hi',rfl⟩:=List.mem_iff_getElem.1 hf
     have hfi:fs[i]?=some fs.toList[i]:=by simp at hi' ⊢
     have hxi:=hi i _ hfi
     have hil:i<xs.length:=by simp at hi';omega
     rw[List.getElem?_eq_getElem hil]at hxi
     exact ih _ (hk.1 _ hf) q _ _ hxi (fun k hkk=>hw' k (DataW.weights_mem_each (j:=i) (by rw[List.getElem?_map,List.getElem?_eq_getElem hi'];rfl) (by rw[List.getElem?_map,List.getElem?_eq_getElem hil];rfl) k hkk)))
    refine⟨l,?_,⟨by simpa using h2,fun f hf=>by simpa using(h3 f hf).2⟩,by simpa using h2⟩;rw[List.drop_zero,Nat.sub_zero,←hlen,List.take_length]at h1;exact h1
   |slice e=>
    simp only[Bool.and_eq_true,beq_iff_eq,decide_eq_true_eq]at hk;obtain⟨⟨hc1,hke⟩,hpos⟩:=hk
    rcases DataW.trod_slice hu hx with⟨rfl,rfl⟩|⟨a,len,cap,elems,rest,q,rfl,rfl,rfl,hba,hlc,hcm,hel,hi,hsp,_⟩
    ·exact⟨[.lst (P.cellsOf e) [] .open_], .cons (.lst0 nofun) .nil,⟨[],rfl,by simp,fun x hx=>by cases hx⟩,hc1.symm⟩
    ·have hwt: ∀k∈DataW.weights P t (DataW.slice (elems.map (·.1)) (rest.map (·.1))),k≤reachBytes:=hw
     unfold DataW.weights at hwt;rw[hu]at hwt;simp only[List.mem_cons,List.mem_append]at hwt;obtain⟨hrl,hrest⟩:=hsp rfl
     have hlen:(elems.length+rest.length)*P.bytesOf e≤reachBytes:=by
      have:=hwt _ (.inl rfl)
      simpa using this
     have hadd: ∀i j,(a.add (i*P.cellsOf e)).add j=a.add (i*P.cellsOf e+j):=fun i j=>by
      unfold Addr.add
      by_cases h1:i*P.cellsOf e=0<;>by_cases h2:j=0<;>simp [h1,h2,Nat.add_assoc]
     have hex: ∀i,i<len→ ∃row,(CRs F ρ w ((List.range (P.cellsOf e)).map fun j=>(w.cell? (a.add (i*P.cellsOf e+j))).getD Go.undef) row∧(∀j,j<P.cellsOf e→(w.cell? (a.add (i*P.cellsOf e+j))).isSome))∧Shp P n e row∧row.length=P.cellsOf e:=by
      intro i hil
      have h1:=hi i hil
      rw[List.getElem?_eq_getElem (show i<elems.length by omega)]at h1;obtain⟨c,hcs,ht⟩:=Option.bind_eq_some_iff.1 h1;obtain⟨row,r1,r2,r3⟩:=ih e hke q c _ ht (fun k hk'=>hwt k (.inr (.inl (weights_elem (i:=i) (by rw[List.getElem?_map,List.getElem?_eq_getElem (show i<elems.length by omega)];rfl) k hk'))));obtain⟨hl,hg⟩:=cells_get hcs
      have hcell: ∀j,j<P.cellsOf e→w.cell? (a.add (i*P.cellsOf e+j))=c[j]?:=fun j hj=>by
       have hjl:j<c.length:=by omega
       have:=hg j _ (List.getElem?_eq_getElem hjl);rw[hadd]at this;rw[this,List.getElem?_eq_getElem hjl]
      refine⟨row,⟨?_,fun j hj=>by rw[hcell j hj,List.getElem?_eq_getElem (by omega)];rfl⟩,r2,r3⟩
      have:((List.range (P.cellsOf e)).map fun j=>(w.cell? (a.add (i*P.cellsOf e+j))).getD Go.undef)=c:=by
       refine List.ext_getElem? fun j=>?_
       rw[List.getElem?_map]
       by_cases hj:j<P.cellsOf e
       ·rw[List.getElem?_eq_getElem (show j<c.length by omega),List.getElem?_eq_getElem (show j<(List.range (P.cellsOf e)).length by simpa using hj)]
        simp only[Option.map_some,List.getElem_range];rw[hcell j hj,List.getElem?_eq_getElem (show j<c.length by omega)];rfl
       ·rw[List.getElem?_eq_none (show c.length≤j by omega),List.getElem?_eq_none (show(List.range (P.cellsOf e)).length≤j by simpa using hj)];rfl
      rw[this];exact r1
     obtain⟨xs,hxl,hxs⟩:=list_choose len hex
     have hshp: ∀x,x∈xs→Shp P n e x∧x.length=P.cellsOf e:=fun x hx=>by
      obtain⟨i,hi',rfl⟩:=List.mem_iff_getElem.1 hx;exact(hxs i _ (List.getElem?_eq_getElem hi')).2
     have hcells: ∀x,x∈xs→(rowAV P e x).cells=x:=fun x hx=>rowAV_cells (hshp x hx).1 hke (hshp x hx).2
     refine⟨[.lst (P.cellsOf e) (xs.map (rowAV P e)) .open_], .cons ?_ .nil,⟨xs,rfl,?_,fun x hx=>(hshp x hx).1⟩,hc1.symm⟩
     ·rcases Nat.eq_zero_or_pos cap with h0|h0
      ·subst h0
       obtain rfl:len=0:=by omega
       obtain rfl:=List.eq_nil_of_length_eq_zero hxl;exact .lst0 nofun
      ·--all cells that there is room for
       have hsome: ∀i,i<cap→ ∀j,j<P.cellsOf e→(w.cell? (a.add (i*P.cellsOf e+j))).isSome:=by
        intro i hic j hj
        rcases Nat.lt_or_ge i len with hil|hil
        ·have hxi:i<xs.length:=by omega
         exact(hxs i _ (List.getElem?_eq_getElem hxi)).1.2 j hj
        ·have h1:=hrest (i-len) (by omega)
         rw[List.getElem?_eq_getElem (show i-len<rest.length by omega),show len+(i-len)=i by omega]at h1;obtain⟨c,hcs,_⟩:=Option.bind_eq_some_iff.1 h1;obtain⟨hl,hg⟩:=cells_get hcs
         have hjl:j<c.length:=by omega
         have:=hg j _ (List.getElem?_eq_getElem hjl);rw[hadd]at this;rw[this];rfl
       have h00:=hsome 0 h0 0 hpos
       rw[Nat.zero_mul,Nat.add_zero]at h00;have ha0:a.add 0=a:=rfl;rw[ha0]at h00;unfold World.cell? at h00;split at h00
       ·rename_i arr et fz hb
        split at h00
        ·cases h00
        ·rename_i hspot
         obtain⟨B,o,sp⟩:=a
         obtain rfl:sp=none:=by simpa using hspot
         have hcell: ∀i,i<cap→ ∀j,j<P.cellsOf e→w.cell? ((⟨B,o,none⟩:Addr).add (i*P.cellsOf e+j))=arr[o+(i*P.cellsOf e+j)]?∧o+(i*P.cellsOf e+j)<arr.size:=by
          intro i hic j hj
          have hs:=hsome i hic j hj
          rw[add0]at hs ⊢
          simp only[World.cell?,hb]at hs ⊢
          refine⟨by simp,?_⟩;simp only[Option.isSome_none,Bool.false_eq_true,if_false]at hs;exact lt_of_get (Option.eq_some_of_isSome hs)
         refine .lst hb (by simp[hxl]) (fun y hy=>?_) (fun j _=>hF _ _) (fun i j=>arr.getD (o+(i*P.cellsOf e+j)) Go.undef) (fun i y j z hy hz=>?_) (fun i y j z hy hz=>?_) (by simp[hxl];exact hlc) ?_ nofun nofun
         ·obtain⟨x,hx,rfl⟩:=List.mem_map.1 hy
          rw[hcells x hx];exact(hshp x hx).2
         ·have hy':(xs[i]?).map (rowAV P e)=some y:=by rw[←List.getElem?_map];exact hy
          obtain⟨row,hxi,rfl⟩:=Option.map_eq_some_iff.1 hy'
          have hmem:=List.mem_of_getElem? hxi
          rw[hcells row hmem]at hz
          have hj:j<P.cellsOf e:=by have:=lt_of_getl hz;rw[(hshp row hmem).2]at this;exact this
          have hil:i<len:=by have:=lt_of_getl hxi;omega
          obtain⟨hc1',hlt⟩:=hcell i (by omega) j hj;simp[Array.getD_eq_getD_getElem?,Array.getElem?_eq_getElem hlt]
         ·have hy':(xs[i]?).map (rowAV P e)=some y:=by rw[←List.getElem?_map];exact hy
          obtain⟨row,hxi,rfl⟩:=Option.map_eq_some_iff.1 hy'
          have hmem:=List.mem_of_getElem? hxi
          rw[hcells row hmem]at hz
          have hj:j<P.cellsOf e:=by have:=lt_of_getl hz;rw[(hshp row hmem).2]at this;exact this
          have hil:i<len:=by have:=lt_of_getl hxi;omega
          obtain⟨hc1',hlt⟩:=hcell i (by omega) j hj;have:=((hxs i row hxi).1.1).2 j ((w.cell? ((⟨B,o,none⟩:Addr).add (i*P.cellsOf e+j))).getD Go.undef) z (by rw[List.getElem?_map,List.getElem?_eq_getElem (show j<(List.range (P.cellsOf e)).length by simpa using hj)];simp) hz;rw[hc1',Array.getElem?_eq_getElem hlt]at this
          simpa [Array.getD_eq_getD_getElem?,Array.getElem?_eq_getElem hlt]using this
         ·have:=(hcell (cap-1) (by omega) (P.cellsOf e-1) (by omega)).2
          have e1:cap*P.cellsOf e=(cap-1)*P.cellsOf e+P.cellsOf e:=by
           have:cap=(cap-1)+1:=by omega
           rw[this,Nat.add_mul,Nat.one_mul];simp
          omega
       ·cases h00
     ·rw[hxl,←hel]
      exact Nat.le_trans (Nat.mul_le_mul_right _ (by omega)) hlen
   |_=>simp at hk
end
end Go.Proofs.YthnajefdiljneaaDoor.AM
namespace Go.Proofs.YthnajefdiljneaaDoor.AM
set_option linter.unusedVariables false
set_option linter.unusedSimpArgs false
set_option linter.unusedSectionVars false
theorem Con.base{E:Env}(hG: ∀i cs,E.G i=some cs→noRefs cs=true){f:FuncId}{args:List AV}{r:AV}{h':H}(hc:Con E f args [] r h')(hn:noRefs args=true)(hb:baseV r=true)(h:H):Con E f args h r h:=by
 intro A ρ w vs hr hargs
 have hown: ∀(ρ1:Rho) B off,¬Own ρ1 (view []) B off:=fun ρ1 B off ⟨b,k,y,_,hy,_⟩=>by simp[view]at hy
 have hF:Forb (Forb A ρ (view h)) rho0 (view [])=Forb A ρ (view h):=funext fun B=>funext fun off=>propext ⟨fun hh=>hh.resolve_left (hown _ B off), .inr⟩
 have hr':HR E.G (Forb A ρ (view h)) rho0 w (view []):=by
  refine⟨fun b _=>rfl,fun b x hb _=>(by simp[view]at hb),fun b hb=>(by simp[view]at hb),fun b b' B k k' x x' h=>(by cases h),fun B off ha=>⟨?_,hown _ B off⟩,fun i cs hi=>?_⟩
  ·rcases ha with⟨b,k,y,h1,_⟩|ha
   ·exact hr.lt h1
   ·exact(hr.avo B off ha).1
  ·rw[hF];exact(hr.glob i cs hi).free rho0 (by simp only[noRef];exact hG i cs hi)
 obtain⟨h1,h2⟩:=hc (Forb A ρ (view h)) rho0 w vs hr' (by rw[hF];exact hargs.free rho0 hn);refine⟨h1,h2.mono fun e w' ⟨v,ρ',he,hx,_,hcr⟩=>⟨v,ρ,he,?_,?_,hcr.base _ _ _ hb⟩⟩
 ·exact⟨fun _ _ h=>h,fun _ _ h=> .inl h,fun _ _ _ h=> .inl h,hx.st,hx.size,fun B cs e fz hb=>by
   obtain⟨cs',fz',k1,k2,k3⟩:=hx.keep B cs e fz hb
   exact⟨cs',fz',k1,k2,fun off ho _=>k3 off ho (hown _ B off)⟩,fun B hB _=>hx.keepo B hB (fun off=>hown _ B off)⟩
 ·have hk:Keeps (Forb A ρ (view h)) w (Forb A ρ (view h)) w':=fun B cs e fz hb=>by
   obtain⟨cs',fz',k1,k2,k3⟩:=hx.keep B cs e fz hb;exact⟨cs',fz',k1,k2,fun off ho hf=>⟨k3 off ho (hown _ B off),hf⟩⟩
  refine⟨hr.dom,fun b x hb hxh=>?_,hr.hole,hr.sep,fun B off ha=>⟨Nat.lt_of_lt_of_le (hr.avo B off ha).1 hx.size,(hr.avo B off ha).2⟩,fun i cs hi=>(hr.glob i cs hi).mono (fun _ _ h=>h) hk⟩;obtain⟨B,k,k1,k2,k3⟩:=hr.blk b x hb hxh;exact⟨B,k,k1,Nat.lt_of_lt_of_le k2 hx.size,k3.mono (fun _ _ h=>h) hk (hx.keepo B k2 (fun off=>hown _ B off))⟩
theorem Con.bool{E:Env}{f:FuncId}{args:List AV}{b:Bool}{h':H}(hc:Con E f args [] (.bool b) h'){w:World}{vs:Array Value}(hargs:CRs F0 rho0 w vs.toList args)(hg: ∀i cs,E.G i=some cs→CR F0 rho0 w (.pointer (some ⟨i,0,none⟩)) (.fp cs 0)):
  Calls E.P f vs w fun e w'=>e= .returned (.bool b)∧RowKit.Below w.heap.size w w':=
 (hc area0 rho0 w vs (hr0 hg) hargs).2.mono fun e w' ⟨v,ρ',h1,h2,h3,h4⟩=>⟨by rw[h1,toV_eq (x:= .bool b) rfl h4],below_of h2⟩
theorem Con.of_acall{E:Env}(g:Ground E){n:Nat}{f:FuncId}{args:List AV}{h:H}{r:AV}{h':H}(hc:acall E n f args h= .ok (r,h')):Con E f args h r h':=acall_ok g.hS g.hC g.hB g.hmix n f args h r h' hc
theorem Con.env{E E':Env}{f:FuncId}{args:List AV}{h:H}{r:AV}{h':H}(hP:E.P=E'.P)(hG:E.G=E'.G)(hc:Con E f args h r h'):Con E' f args h r h':=by
 unfold Con at hc ⊢
 rw[←hP,←hG];exact hc
noncomputable def runF(X:SX)(K:Known)(fn:Func)(c:Code)(args:List AV)(h:H):T (AV×H):=(execK X K (max fn.ntmps args.length) c [] (initFr args) h).bind fun r=>match r.1 with
 | .exit _=> .fail
 |_=>(resA X.E r.2.1 r.2.2 fn.results.toList).t.bind fun vs=> .leaf (one vs,r.2.2)
theorem Con.of_run{X:SX}(g:Ground X.E)(hcall:CallOK X.E X.calls){f:FuncId}{fn:Func}(hfn:X.E.P.funcs[f]?=some fn){c:Code}(hb:fn.body=some c)(hname:(fn.name== "runtime.NumGoroutine")=false){args:List AV}{h:H}{K:Known}
  (hK:KOK X.E (max fn.ntmps args.length) h c K) {r:AV} {h':H} (hr:(runF X K fn c args h).run= .ok (r,h')):Con X.E f args h r h':=by
 obtain⟨⟨x,τ,h1⟩,h2,hr⟩:=T.bind_ok hr
 have ht:=execK_ok g hcall hK (sub_nil c) h2
 have key: ∀(hx: ∀i,x≠ .exit i),((resA X.E τ h1 fn.results.toList).t.bind fun vs=>T.leaf (one vs,h1)).run= .ok (r,h')→Con X.E f args h r h':=by
  intro hx hr;obtain⟨rs,h3,hr⟩:=R.tbind_ok hr;cases hr;exact Con.of_tri hfn hb hname rfl ht hx h3
 cases x with
 |normal=>exact key nofun hr
 |ret=>exact key nofun hr
 |exit i=>cases hr
theorem Wk.cut{E:Env}{N:Nat}{h0:H}(hG: ∀i cs,E.G i=some cs→noRefs cs=true){τ τ':Fr}{h h' extra:H}(he:h=h'++extra)(hn:h0.length≤h'.length)(hh: ∀x,x∈h'→x≠ .hole)
  (hb: ∀x,x∈h'→renB (fun b=>if b<h'.length then b else b+extra.length) x=x)
  (hf: ∀i,τ' i=top∨(τ i=τ' i∧AM.ren (fun b=>if b<h'.length then b else b+extra.length) (τ' i)=τ' i∧ ∀sz l,τ i≠ .fsl sz l)):Wk E N h0 τ h τ' h':=by
 subst he;refine Wk.ren hG (κ:=fun b=>if b<h'.length then b else b+extra.length) ⟨fun b hb=>?_,fun b hb=>?_,fun b hb=>?_,fun i x hx=>?_,fun i j x y hx hy _ _ hij=>?_,fun i=>?_⟩
 ·rw[if_pos (by omega)]
 ·split<;>omega
 ·rw[if_neg (by omega),List.length_append];omega
 ·have hi:=lt_of_getl hx
  refine⟨hh x (List.mem_of_getElem? hx),x,?_,?_⟩
  ·rw[if_pos hi,List.getElem?_append_left hi];exact hx
  ·rw[hb x (List.mem_of_getElem? hx)];exact LeB.refl x
 ·have hi:=lt_of_getl hx
  have hj:=lt_of_getl hy
  simpa [hi,hj]using hij
 ·rcases hf i with h1|⟨h1,h2,h3⟩
  ·exact .inl h1
  ·refine .inr ⟨?_,h3⟩
   rw[h2,h1];exact Le.refl _
theorem look_all: ∀(l:List (Nat×AV)) (i:Nat),look l i=top∨ ∃p,p∈l∧look l i=p.2
 | [],i=> .inl rfl
 |(j,v)::l,i=>by
  simp only[look];split
  ·exact .inr ⟨(j,v),List.mem_cons_self ..,rfl⟩
  ·rcases look_all l i with h|⟨p,h1,h2⟩
   ·exact .inl h
   ·exact .inr ⟨p,List.mem_cons_of_mem _ h1,h2⟩
def isFsl:AV→Bool
 | .fsl .. =>true
 |_=>false
theorem Wk.cutF{E:Env}{N:Nat}{h0:H}(hG: ∀i cs,E.G i=some cs→noRefs cs=true){sl:List (Nat×AV)}{h' extra:H}(hn:h0.length≤h'.length)(hh: ∀x,x∈h'→x≠ .hole)
  (hb: ∀x,x∈h'→renB (fun b=>if b<h'.length then b else b+extra.length) x=x)
  (hs: ∀p,p∈sl→AM.ren (fun b=>if b<h'.length then b else b+extra.length) p.2=p.2∧isFsl p.2=false):Wk E N h0 (AM.frm sl) (h'++extra) (AM.frm sl) h':=by
 refine Wk.cut hG rfl hn hh hb (fun i=>?_)
 rcases look_all sl i with h1|⟨p,h1,h2⟩
 ·exact .inl h1
 ·refine .inr ⟨rfl,by show AM.ren _ (look sl i)=look sl i;rw[h2];exact(hs p h1).1,fun sz l e=>?_⟩
  have:look sl i= .fsl sz l:=e;rw[h2]at this
  have h3:=(hs p h1).2
  rw[this]at h3;cases h3
theorem Wk.fewer{E:Env}{N:Nat}{h0:H}{τ:Fr}{sl:List (Nat×AV)}{h:H}(hs: ∀p,p∈sl→τ p.1=p.2):Wk E N h0 τ h (AM.frm sl) h:=by
 refine Wk.frm (E:=E) fun i=>?_
 have key: ∀(l:List (Nat×AV)),(∀p,p∈l→τ p.1=p.2)→look l i=τ i∨look l i=top:=by
  intro l
  induction l with
  |nil=>intro _;exact .inr rfl
  |cons p l ih=>
   intro hl;obtain⟨j,v⟩:=p;simp only[look];split
   ·rename_i he
    rw[Nat.eq_of_beq_eq_true he];exact .inl (hl (j,v) (List.mem_cons_self ..)).symm
   ·exact ih fun p hp=>hl p (List.mem_cons_of_mem _ hp)
 exact key sl hs
end Go.Proofs.YthnajefdiljneaaDoor.AM
namespace Go.Proofs.YthnajefdiljneaaDoor.AM
set_option linter.unusedVariables false
set_option linter.unusedSimpArgs false
set_option linter.unusedSectionVars false
end Go.Proofs.YthnajefdiljneaaDoor.AM
namespace Go.Proofs.YthnajefdiljneaaDoor.AM
set_option linter.unusedVariables false
set_option linter.unusedSimpArgs false
set_option linter.unusedSectionVars false
end Go.Proofs.YthnajefdiljneaaDoor.AM
namespace Go.Proofs.YthnajefdiljneaaDoor.AM
set_option linter.unusedVariables false
set_option linter.unusedSimpArgs false
set_option linter.unusedSectionVars false
theorem shp_struct{P:Program}{n:Nat}{t:TypeId}{l:List AV}{fs:Array Field}(hu:P.underlying t=some (.struct fs))(h:Shp P (n+1) t l):l.length=P.cellsOf t∧ ∀f,f∈fs.toList→Shp P n f.type ((l.drop f.offset).take (P.cellsOf f.type)):=by
 simp only[Shp,hu]at h;exact h
theorem shp_slice{P:Program}{n:Nat}{t e:TypeId}{l:List AV}(hu:P.underlying t=some (.slice e))(h:Shp P (n+1) t l): ∃xs:List (List AV),l= [.lst (P.cellsOf e) (xs.map (rowAV P e)) .open_]∧xs.length*P.bytesOf e≤140737488351232∧ ∀x,x∈xs→Shp P n e x:=by
 simp only[Shp,hu]at h;exact h
theorem reach_of{P:Program}{H:Type}{ts:List TypeId}{ds:List (DataW H)}(h:(DataW.weightsEach P ts ds).all (· ≤reachBytes)=true){j:Nat}{t:TypeId}{d:DataW H}(ht:ts[j]?=some t)(hd:ds[j]?=some d): ∀n∈d.weights P t,n≤reachBytes:=by
 intro n hn;have:=List.all_eq_true.1 h _ (DataW.weights_mem_each ht hd n hn)
 simpa using this
inductive Ty where
 |int (k:IntKind)
 |bool
 |str
 |slice (t:Ty)
 |pair (a b:Ty)
 |one (a:Ty)
def Ty.I:Ty→Type
 | .int _=>Int
 | .bool=>Bool
 | .str=>ByteArray
 | .slice t=>List t.I
 | .pair a b=>a.I×b.I
 | .one a=>a.I
def Ty.cells:Ty→Nat
 | .pair a b=>a.cells+b.cells
 | .one a=>a.cells
 |_=>1
def Ty.isAgg:Ty→Bool
 | .pair .. | .one _=>true
 |_=>false
def Ty.wrap(t:Ty)(r:List AV):AV:=match t with
 | .pair .. | .one _=> .agg r
 |_=>r.headD undef
def Ty.row:(t:Ty)→t.I→List AV
 | .int k,(n:Int)=> [.int k n]
 | .bool,(b:Bool)=> [.bool b]
 | .str,(s:ByteArray)=> [.str s]
 | .slice t,(xs:List t.I)=> [.lst t.cells (xs.map fun x=>t.wrap (t.row x)) .open_]
 | .pair a b,(x,y)=>a.row x++b.row y
 | .one a,x=>a.row x
def Ty.okay:(t:Ty)→t.I→Prop
 | .int k,(n:Int)=>(Lit.int k n).wf=true
 | .bool,(_:Bool)=>True
 | .str,(s:ByteArray)=>s.size≤140737488351232
 | .slice t,(xs:List t.I)=>xs.length≤140737488351232∧ ∀x,x∈xs→t.okay x
 | .pair a b,(x,y)=>a.okay x∧b.okay y
 | .one a,x=>a.okay x
def Ty.elem(t:Ty)(x:t.I):AV:=t.wrap (t.row x)
theorem Ty.row_length: ∀(t:Ty) (x:t.I),(t.row x).length=t.cells
 | .int _,_=>rfl
 | .bool,_=>rfl
 | .str,_=>rfl
 | .slice _,_=>rfl
 | .pair a b,(x,y)=>by simp only[Ty.row,Ty.cells,List.length_append,Ty.row_length a x,Ty.row_length b y]
 | .one a,x=>by simp only[Ty.row,Ty.cells,Ty.row_length a x]
mutual
def Ty.of(P:Program):Nat→TypeId→Option Ty
 |0,_=>none
 |n+1,t=>match P.underlying t with
  |some .bool=>some .bool
  |some (.int k)=>some (.int k)
  |some .string=>some .str
  |some (.slice e)=>match Ty.of P n e with
   |some u=>if(P.cellsOf e=u.cells∧aggB' P e=u.isAgg)∧1≤P.bytesOf e then some (.slice u)else none
   |none=>none
  |some (.struct fs)=>match fs.toList with
   | [f]=>match Ty.of P n f.type with
     |some u=>if f.offset=0∧P.cellsOf f.type=u.cells∧P.cellsOf t=u.cells then some (.one u)else none
     |none=>none
   |fs=>match Ty.ofs P n fs 0 with
    |some u=>if P.cellsOf t=u.cells then some u else none
    |none=>none
  |_=>none
 termination_by structural n=>n
def Ty.ofs(P:Program):Nat→List Field→Nat→Option Ty
 |0,_,_=>none
 |n+1,fs,off=>match fs with
  | []=>none
  |f::fs=>match Ty.of P n f.type with
   |some u=>if f.offset=off∧P.cellsOf f.type=u.cells then(match fs with
     | []=>some u
     |fs=>match Ty.ofs P n fs (off+u.cells)with
      |some w=>some (.pair u w)
      |none=>none)else none
   |none=>none
 termination_by structural n=>n
end
theorem wrap_row{P:Program}{e:TypeId}{u:Ty}(h:aggB' P e=u.isAgg)(x:List AV):rowAV P e x=u.wrap x:=by
 unfold rowAV;rw[h]
 cases u<;>rfl
theorem rows_choose{α β:Type}{f:α→β}{Q:α→Prop}: ∀(xs:List β),(∀x,x∈xs→ ∃y,x=f y∧Q y)→ ∃ys:List α,xs=ys.map f∧ ∀y,y∈ys→Q y
 | [],_=>⟨[],rfl,nofun⟩
 |x::xs,h=>by
  obtain⟨ys,h1,h3⟩:=rows_choose xs (fun y hy=>h y (List.mem_cons_of_mem _ hy));obtain⟨y,h2,h4⟩:=h x (List.mem_cons_self ..)
  exact⟨y::ys,by rw[List.map_cons,←h1,←h2],fun z hz=>by
   rcases List.mem_cons.1 hz with rfl|hz
   ·exact h4
   ·exact h3 z hz⟩
theorem shp_ty{P:Program}: ∀n,
  (∀(t:TypeId) (ty:Ty),Ty.of P n t=some ty→ ∀(m:Nat) (l:List AV),Shp P m t l→ ∃x:ty.I,l=ty.row x∧ty.okay x)∧
  (∀(fs:List Field) (off:Nat) (u:Ty),Ty.ofs P n fs off=some u→ ∀(m:Nat) (l:List AV),(∀f,f∈fs→Shp P m f.type ((l.drop f.offset).take (P.cellsOf f.type)))→l.length=off+u.cells→ ∃x:u.I,l.drop off=u.row x∧u.okay x):=by
 intro n
 induction n with
 |zero=>exact⟨fun t ty h=>(by simp[Ty.of]at h),fun fs off u h=>(by simp[Ty.ofs]at h)⟩
 |succ n ih=>
  obtain⟨ih1,ih2⟩:=ih;refine⟨fun t ty h m l hs=>?_,fun fs off u h m l hf hl=>?_⟩
  ·cases m with
   |zero=>cases hs
   |succ m=>
    simp only[Ty.of]at h;split at h
    ·rename_i hu
     cases h;simp only[Shp,hu]at hs;obtain⟨b,rfl⟩:=hs;exact⟨b,rfl,trivial⟩
    ·rename_i hu
     cases h;simp only[Shp,hu]at hs;obtain⟨k,rfl,hk⟩:=hs;exact⟨k,rfl,hk⟩
    ·rename_i hu
     cases h;simp only[Shp,hu]at hs;obtain⟨k,rfl,hk⟩:=hs;exact⟨k,rfl,hk⟩
    ·rename_i e hu
     split at h
     ·rename_i u he
      split at h
      ·rename_i hc
       cases h;obtain⟨xs,rfl,hn,hx⟩:=shp_slice hu hs;obtain⟨ys,rfl,hy⟩:=rows_choose (f:=u.row) (Q:=u.okay) xs (fun x hxm=>ih1 e u he m x (hx x hxm));refine⟨ys,?_,?_,hy⟩
       ·simp only[Ty.row,hc.1.1,List.map_map]
        congr 2
        exact List.map_congr_left fun y _=>wrap_row hc.1.2 _
       ·rw[List.length_map]at hn
        exact Nat.le_trans (Nat.le_mul_of_pos_right _ hc.2) hn
      ·cases h
     ·cases h
    ·rename_i fs hu
     obtain⟨hl,hf⟩:=shp_struct hu hs;split at h
     ·rename_i f hfs
      split at h
      ·rename_i u he
       split at h
       ·rename_i hc
        cases h;have:=hf f (by rw[hfs];exact List.mem_cons_self ..);rw[hc.1,List.drop_zero,hc.2.1,←hc.2.2,←hl,List.take_length]at this;obtain⟨x,hx⟩:=ih1 f.type u he m l this;exact⟨x,hx⟩
       ·cases h
      ·cases h
     ·split at h
      ·rename_i u he
       split at h
       ·rename_i hc
        cases h;obtain⟨x,hx⟩:=ih2 fs.toList 0 _ he m l hf (by omega);exact⟨x,by rw[List.drop_zero]at hx;exact hx⟩
       ·cases h
      ·cases h
    ·cases h
  ·simp only[Ty.ofs]at h
   split at h
   ·cases h
   ·rename_i f fs
    split at h
    ·rename_i v hv
     split at h
     ·rename_i hc
      have h0:=hf f (List.mem_cons_self ..)
      rw[hc.1,hc.2]at h0;obtain⟨x,hx⟩:=ih1 f.type v hv m _ h0;split at h
      ·cases h
       refine⟨x,?_,hx.2⟩;rw[←hx.1,List.take_of_length_le (by rw[List.length_drop];omega)]
      ·split at h
       ·rename_i w hw
        cases h;simp only[Ty.cells]at hl;obtain⟨y,hy⟩:=ih2 _ (off+v.cells) w hw m l (fun g hg=>hf g (List.mem_cons_of_mem _ hg)) (by omega);refine⟨(x,y),?_,hx.2,hy.2⟩;simp only[Ty.row];rw[←hx.1,←hy.1,←List.drop_drop,List.take_append_drop]
       ·cases h
     ·cases h
    ·cases h
theorem noRefs_append: ∀(l m:List AV),noRefs l=true→noRefs m=true→noRefs (l++m)=true
 | [],m,_,h=>h
 |x::l,m,h,h'=>by
  simp only[noRefs,Bool.and_eq_true]at h;simp only[List.cons_append,noRefs,h.1,noRefs_append l m h.2 h',Bool.and_self]
theorem noRefs_mem: ∀(l:List AV),(∀x,x∈l→noRef x=true)→noRefs l=true
 | [],_=>rfl
 |x::l,h=>by simp only[noRefs,h x (List.mem_cons_self ..),noRefs_mem l (fun y hy=>h y (List.mem_cons_of_mem _ hy)),Bool.and_self]
theorem Ty.wrap_noRef{t:Ty}{l:List AV}(h:noRefs l=true):noRef (t.wrap l)=true:=by
 unfold Ty.wrap;split
 ·simpa only [noRef]using h
 ·simpa only [noRef]using h
 ·cases l with
  |nil=>rfl
  |cons x l=>simp only[noRefs,Bool.and_eq_true]at h;exact h.1
theorem Ty.row_noRef: ∀(t:Ty) (x:t.I),noRefs (t.row x)=true
 | .int _,_=>rfl
 | .bool,_=>rfl
 | .str,_=>rfl
 | .slice t,xs=>by
   have:noRefs ((show List t.I from xs).map fun x=>t.wrap (t.row x))=true:=noRefs_mem _ fun y hy=>by
    obtain⟨x,_,rfl⟩:=List.mem_map.1 hy;exact Ty.wrap_noRef (Ty.row_noRef t x)
   simp only[Ty.row,noRefs,noRef,this,Bool.and_self]
 | .pair a b,(x,y)=>by simp only[Ty.row];exact noRefs_append _ _ (Ty.row_noRef a x) (Ty.row_noRef b y)
 | .one a,x=>by simp only[Ty.row];exact Ty.row_noRef a x
theorem Ty.elem_noRef(t:Ty)(x:t.I):noRef (t.elem x)=true:=Ty.wrap_noRef (Ty.row_noRef t x)
mutual
theorem ren_noRef(κ:Nat→Nat): ∀v:AV,noRef v=true→ren κ v=v:=by
 intro v h
 cases v with
 |fp l off=>simp only[noRef]at h;simp only[ren,rens_noRef κ l h]
 |lst sz l tl=>
  simp only[noRef,Bool.and_eq_true]at h;simp only[ren,rens_noRef κ l h.1]
  cases tl with
  |own t=>exact absurd h.2 (by simp)
  |clip=>rfl
  |open_=>rfl
 |clo f l m=>simp only[noRef,Bool.and_eq_true]at h;simp only[ren,rens_noRef κ l h.1,rens_noRef κ m h.2]
 |agg l=>simp only[noRef]at h;simp only[ren,rens_noRef κ l h]
 |tup l=>simp only[noRef]at h;simp only[ren,rens_noRef κ l h]
 |ptr|eptr|sl|vsl|map|fsl=>simp only[noRef]at h;cases h
 |_=>rfl
theorem rens_noRef(κ:Nat→Nat): ∀l:List AV,noRefs l=true→rens κ l=l:=by
 intro l h
 match l with
 | []=>rfl
 |x::xs=>
  simp only[noRefs,Bool.and_eq_true]at h;simp only[rens,ren_noRef κ x h.1,rens_noRef κ xs h.2]
end
def Ty.zero:(t:Ty)→t.I
 | .int _=>(0:Int)
 | .bool=>false
 | .str=>ByteArray.empty
 | .slice t=>([]:List t.I)
 | .pair a b=>(a.zero,b.zero)
 | .one a=>a.zero
theorem getD_app_l{α:Type}(l m:List α)(j:Nat)(d:α)(h:j<l.length):(l++m).getD j d=l.getD j d:=by
 rw[List.getD_eq_getElem?_getD,List.getD_eq_getElem?_getD,List.getElem?_append_left h]
theorem getD_app_r{α:Type}(l m:List α)(j:Nat)(d:α)(h:l.length≤j):(l++m).getD j d=m.getD (j-l.length) d:=by
 rw[List.getD_eq_getElem?_getD,List.getD_eq_getElem?_getD,List.getElem?_append_right h]
def Likes(a b:AV):Prop:= ∀P t,fits1 P t a=fits1 P t b
theorem Ty.row_likes: ∀(t:Ty) (x y:t.I) (j:Nat),Likes ((t.row x).getD j undef) ((t.row y).getD j undef)
 | .int k,x,y,0=>fun P t=>by simp only[Ty.row,List.getD_cons_zero,fits1]
 | .bool,x,y,0=>fun P t=>by simp only[Ty.row,List.getD_cons_zero,fits1]
 | .str,x,y,0=>fun P t=>by simp only[Ty.row,List.getD_cons_zero,fits1]
 | .slice _,x,y,0=>fun P t=>by simp only[Ty.row,List.getD_cons_zero,fits1]
 | .int k,x,y,j+1=>fun P t=>by simp only[Ty.row,List.getD_cons_succ,List.getD_nil]
 | .bool,x,y,j+1=>fun P t=>by simp only[Ty.row,List.getD_cons_succ,List.getD_nil]
 | .str,x,y,j+1=>fun P t=>by simp only[Ty.row,List.getD_cons_succ,List.getD_nil]
 | .slice _,x,y,j+1=>fun P t=>by simp only[Ty.row,List.getD_cons_succ,List.getD_nil]
 | .pair a b,(x1,x2),(y1,y2),j=>by
   simp only[Ty.row]
   by_cases hj:j<a.cells
   ·rw[getD_app_l _ _ _ _ (by rw[Ty.row_length];exact hj),getD_app_l _ _ _ _ (by rw[Ty.row_length];exact hj)]
    exact Ty.row_likes a x1 y1 j
   ·rw[getD_app_r _ _ _ _ (by rw[Ty.row_length];omega),getD_app_r _ _ _ _ (by rw[Ty.row_length];omega),Ty.row_length,Ty.row_length]
    exact Ty.row_likes b x2 y2 _
 | .one a,x,y,j=>by simp only[Ty.row];exact Ty.row_likes a x y j
theorem fitss_likes{P:Program}{cs ds:List AV}(h: ∀j,Likes (cs.getD j undef) (ds.getD j undef)): ∀(ts:List TypeId) (k:Nat),fitss P cs k ts=fitss P ds k ts
 | [],_=>rfl
 |t::ts,k=>by simp only[fitss,h k P t,fitss_likes h ts (k+1)]
theorem Ty.elem_cells: ∀(t:Ty) (x:t.I),(t.elem x).cells=t.row x
 | .int _,_=>rfl
 | .bool,_=>rfl
 | .str,_=>rfl
 | .slice _,_=>rfl
 | .pair _ _,_=>rfl
 | .one _,_=>rfl
theorem Ty.fits_any{P:Program}{e:TypeId}(t:Ty)(x:t.I)(h:fitsC P e (t.elem t.zero)=true):fitsC P e (t.elem x)=true:=by
 simp only[fitsC,Ty.elem_cells,Ty.row_length]at h ⊢
 rw[fitss_likes (Ty.row_likes t x t.zero)];exact h
end Go.Proofs.YthnajefdiljneaaDoor.AM
namespace Go.Proofs.YthnajefdiljneaaDoor.AM
set_option linter.unusedVariables false
set_option linter.unusedSimpArgs false
set_option linter.unusedSectionVars false
def Pin(x:Value)(y:AV):Prop:= ∀(F:Area) (ρ:Rho) (w:World) (v:Value),CR F ρ w v y→v=x
theorem Pin.of{x:Value}{y:AV}(h:y.toV=some x):Pin x y:=fun F ρ w v hc=>toV_eq h hc
theorem Pin.int(k:IntKind)(n:Int):Pin (.int k n) (.int k n):= .of rfl
theorem Pin.str(s:ByteArray):Pin (.string s) (.str s):= .of rfl
inductive Pins:List Value→List AV→Prop
 |nil:Pins [] []
 |cons {x:Value} {y:AV} {xs:List Value} {ys:List AV} (h:Pin x y) (t:Pins xs ys):Pins (x::xs) (y::ys)
theorem Pins.eq{F:Area}{ρ:Rho}{w:World}{xs:List Value}{ys:List AV}(h:Pins xs ys): ∀{vs:List Value},vs.length=ys.length→(∀(j:Nat) (v:Value) (y:AV),vs[j]?=some v→ys[j]?=some y→CR F ρ w v y)→vs=xs:=by
 induction h with
 |nil=>intro vs hl _;exact List.eq_nil_of_length_eq_zero hl
 |cons h t ih=>
  intro vs hl hc
  match vs,hl with
  |v::vs,hl=>
   rw[h _ _ _ _ (hc 0 v _ rfl rfl),ih (by simpa using hl) (fun j v y hv hy=>hc (j+1) v y hv hy)]
theorem Pin.agg{xs:List Value}{ys:List AV}(h:Pins xs ys):Pin (.agg xs.toArray) (.agg ys):=by
 intro F ρ w v hc
 cases hc with
 | @agg cs _ hn vs h1 h2=>
   have:cs.toList=xs:=h.eq (F:=F) (ρ:=ρ) (w:=w) (by simpa using hn) (fun j v y hv hy=>by
    have:=h1 j y hy;rw[Array.getElem?_toList]at hv
    rw[hv]at this;cases this;exact h2 j y hy)
   rw[←this]
theorem Con.of_calls{E:Env}{f:FuncId}{args:List AV}{us:List Value}(hp:Pins us args){v:Value}{r:AV}(hr: ∀F ρ w,CR F ρ w v r)
  (hen: ∀W,(callFunc f us.toArray).run E.P W= .ok (.enter f us.toArray) W)
  (hc: ∀w,Calls E.P f us.toArray w fun e w'=>e= .returned v∧RowKit.Below w.heap.size w w') (h:H):Con E f args h r h:=by
 intro A ρ w vs hw hargs
 have hvs:vs=us.toArray:=by
  have:=hp.eq hargs.1 hargs.2;rw[←this]
 subst hvs;refine⟨hen,(hc w).mono fun e w' ⟨he,hb⟩=>⟨v,ρ,he,?_,?_,hr _ _ _⟩⟩
 ·exact⟨fun _ _ h=>h,fun _ _ h=> .inl h,fun _ _ _ h=> .inl h,⟨hb.os,hb.tape,hb.output⟩,hb.size,fun B cs e fz hB=>by
   have hlt:B<w.heap.size:=by
    rcases Nat.lt_or_ge B w.heap.size with h|h
    ·exact h
    ·rw[Array.getElem?_eq_none h]at hB;cases hB
   exact⟨cs,fz,by rw[hb.block B hlt];exact hB,rfl,fun off _ _=>rfl⟩,fun B hB _=>hb.block B hB⟩
 ·have hk:Keeps (Forb A ρ (view h)) w (Forb A ρ (view h)) w':=fun B cs e fz hB=>by
   have hlt:B<w.heap.size:=by
    rcases Nat.lt_or_ge B w.heap.size with h|h
    ·exact h
    ·rw[Array.getElem?_eq_none h]at hB;cases hB
   exact⟨cs,fz,by rw[hb.block B hlt];exact hB,rfl,fun off _ hf=>⟨rfl,hf⟩⟩
  refine⟨hw.dom,fun b x hbx hxh=>?_,hw.hole,hw.sep,fun B off ha=>⟨Nat.lt_of_lt_of_le (hw.avo B off ha).1 hb.size,(hw.avo B off ha).2⟩,fun i cs hi=>(hw.glob i cs hi).mono (fun _ _ h=>h) hk⟩;obtain⟨B,k,k1,k2,k3⟩:=hw.blk b x hbx hxh;exact⟨B,k,k1,Nat.lt_of_lt_of_le k2 hb.size,k3.mono (fun _ _ h=>h) hk (hb.block B k2)⟩
end Go.Proofs.YthnajefdiljneaaDoor.AM
namespace Go.Proofs.YthnajefdiljneaaDoor.AM
set_option linter.unusedVariables false
set_option linter.unusedSimpArgs false
set_option linter.unusedSectionVars false
open Classical in
noncomputable def askS(vs ws:List AV)(h h0:H):Bool:=decide (vs=ws∧h=h0)
theorem askS_self(vs:List AV)(h:H):askS vs vs h h=true:=by simp[askS]
theorem askS_eq{vs ws:List AV}{h h0:H}(e:askS vs ws h h0=true):vs=ws∧h=h0:=by simpa [askS]using e
noncomputable def kAt(p:List Nat)(sl:List (Nat×AV))(h0:H)(x:X)(sl':List (Nat×AV))(h':H):Known:=fun q=>
 if q=p then some (fun τ h=> .br (askS (sl.map fun s=>τ s.1) (sl.map (·.2)) h h0) (.leaf (x,frm sl',h')) .fail)else none
theorem map_eq_mem{α β:Type}{f g:α→β}: ∀{l:List α},l.map f=l.map g→ ∀x,x∈l→f x=g x
 | [],_,x,h=>by cases h
 |a::l,h,x,hx=>by
  simp only[List.map_cons,List.cons.injEq]at h
  rcases List.mem_cons.1 hx with rfl|hx
  ·exact h.1
  ·exact map_eq_mem h.2 x hx
theorem kAt_ok{E:Env}{N:Nat}{hb:H}{b:Code}{p:List Nat}{sl:List (Nat×AV)}{h0:H}{x:X}{sl':List (Nat×AV)}{h':H}(ht:Tri E N hb (sub b p) (frm sl) h0 x (frm sl') h'):KOK E N hb b (kAt p sl h0 x sl' h'):=by
 intro q k hk τ h y τ' h1 hr;simp only[kAt]at hk;split at hk
 ·rename_i hq
  subst hq;cases hk
  dsimp only at hr
  obtain⟨hc,hr⟩:=brf_ok hr;cases hr;obtain⟨h1,rfl⟩:=askS_eq hc;exact .wk (Wk.fewer fun s hs=>map_eq_mem h1 s hs) ht .refl
 ·cases hk
end Go.Proofs.YthnajefdiljneaaDoor.AM
namespace Go.Proofs.YthnajefdiljneaaDoor.AM
set_option linter.unusedVariables false
set_option linter.unusedSimpArgs false
set_option linter.unusedSectionVars false
def drop1:AV→AV
 | .lst sz l _=> .lst sz l .open_
 |v=>v
theorem Les.drop1: ∀l:List AV,Les l (l.map AM.drop1)
 | []=> .nil
 |x::l=>by
  refine .cons ?_ (Les.drop1 l)
  cases x with
  |lst sz l tl=>exact Le.open_
  |_=>exact Le.refl _
end Go.Proofs.YthnajefdiljneaaDoor.AM
namespace Go.Proofs.YthnajefdiljneaaDoor.AM
set_option linter.unusedVariables false
set_option linter.unusedSimpArgs false
set_option linter.unusedSectionVars false
theorem Con.based{E:Env}(hG: ∀i cs,E.G i=some cs→noRefs cs=true){f:FuncId}{args:List AV}{r:AV}{h':H}(hc:Con E f args [] r h')(hn:noRefs args=true){r':AV}(hl:Le r r')(hb:noRef r'=true)(h:H):Con E f args h r' h:=by
 intro A ρ w vs hr hargs
 have hown: ∀(ρ1:Rho) B off,¬Own ρ1 (view []) B off:=fun ρ1 B off ⟨b,k,y,_,hy,_⟩=>by simp[view]at hy
 have hF:Forb (Forb A ρ (view h)) rho0 (view [])=Forb A ρ (view h):=funext fun B=>funext fun off=>propext ⟨fun hh=>hh.resolve_left (hown _ B off), .inr⟩
 have hr':HR E.G (Forb A ρ (view h)) rho0 w (view []):=by
  refine⟨fun b _=>rfl,fun b x hb _=>(by simp[view]at hb),fun b hb=>(by simp[view]at hb),fun b b' B k k' x x' h=>(by cases h),fun B off ha=>⟨?_,hown _ B off⟩,fun i cs hi=>?_⟩
  ·rcases ha with⟨b,k,y,h1,_⟩|ha
   ·exact hr.lt h1
   ·exact(hr.avo B off ha).1
  ·rw[hF];exact(hr.glob i cs hi).free rho0 (by simp only[noRef];exact hG i cs hi)
 obtain⟨h1,h2⟩:=hc (Forb A ρ (view h)) rho0 w vs hr' (by rw[hF];exact hargs.free rho0 hn);refine⟨h1,h2.mono fun e w' ⟨v,ρ',he,hx,_,hcr⟩=>⟨v,ρ,he,?_,?_,?_⟩⟩
 ·exact⟨fun _ _ h=>h,fun _ _ h=> .inl h,fun _ _ _ h=> .inl h,hx.st,hx.size,fun B cs e fz hb=>by
   obtain⟨cs',fz',k1,k2,k3⟩:=hx.keep B cs e fz hb
   exact⟨cs',fz',k1,k2,fun off ho _=>k3 off ho (hown _ B off)⟩,fun B hB _=>hx.keepo B hB (fun off=>hown _ B off)⟩
 ·have hk:Keeps (Forb A ρ (view h)) w (Forb A ρ (view h)) w':=fun B cs e fz hb=>by
   obtain⟨cs',fz',k1,k2,k3⟩:=hx.keep B cs e fz hb;exact⟨cs',fz',k1,k2,fun off ho hf=>⟨k3 off ho (hown _ B off),hf⟩⟩
  refine⟨hr.dom,fun b x hb hxh=>?_,hr.hole,hr.sep,fun B off ha=>⟨Nat.lt_of_lt_of_le (hr.avo B off ha).1 hx.size,(hr.avo B off ha).2⟩,fun i cs hi=>(hr.glob i cs hi).mono (fun _ _ h=>h) hk⟩;obtain⟨B,k,k1,k2,k3⟩:=hr.blk b x hb hxh;exact⟨B,k,k1,Nat.lt_of_lt_of_le k2 hx.size,k3.mono (fun _ _ h=>h) hk (hx.keepo B k2 (fun off=>hown _ B off))⟩
 ·have hk:Keeps (Forb (Forb A ρ (view h)) ρ' (view h')) w' (Forb A ρ (view h)) w':=fun B cs e fz hb=>⟨cs,fz,hb,rfl,fun off _ hf=>⟨rfl,fun hq=>hf (.inr hq)⟩⟩
  exact((hl _ _ _ _ hcr).free ρ hb).mono (fun _ _ h=>h) hk
end Go.Proofs.YthnajefdiljneaaDoor.AM
namespace Go.Proofs.YthnajefdiljneaaDoor.AM
set_option linter.unusedVariables false
set_option linter.unusedSimpArgs false
set_option linter.unusedSectionVars false
theorem bT{α:Type}{b:Bool}{t f:T α}{x:R α}(hb:b=true)(ht:t.run=x):(T.br b t f).run=x:=by subst hb;exact ht
theorem bF{α:Type}{b:Bool}{t f:T α}{x:R α}(hb:b=false)(ht:f.run=x):(T.br b t f).run=x:=by subst hb;exact ht
theorem bS{α:Type}{vs ws:List AV}{h:H}{t f:T α}{x:R α}(ht:t.run=x)(hv:vs=ws:=by rfl):(T.br (askS vs ws h h) t f).run=x:=by
 subst hv;rw[askS_self];exact ht
noncomputable def ask(p:Prop):Bool:=by
 classical exact decide p
theorem ask_true{p:Prop}(h:p):ask p=true:=by simp[ask,h]
theorem ask_of{p:Prop}(h:ask p=true):p:=by simpa [ask]using h
noncomputable def askQ(p:List AV→Prop)(args:List AV):Bool:=ask (p args)
theorem bA{α:Type}{p:List AV→Prop}{args:List AV}{t f:T α}{x:R α}(ht:t.run=x)(hp:p args):(T.br (askQ p args) t f).run=x:=bT (ask_true hp) ht
structure Cl where
 f:FuncId
 ok:List AV→Prop
 res:List AV→AV
noncomputable def callsBy(cs:List Cl):FuncId→List AV→H→T (AV×H):=fun f args h=>match cs.find? (fun c=>c.f==f)with
 |some c=> .br (askQ c.ok (args.map drop1)) (.leaf (c.res (args.map drop1),h)) .fail
 |none=> .fail
theorem callsBy_ok{X:SX}{cs:List Cl}(hx:X.call=callsBy cs)(hcs: ∀c,c∈cs→ ∀args,c.ok args→ ∀h,Con X.E c.f args h (c.res args) h):CallOK X.E X.calls:=by
 intro f args h r h' hc
 have hc':(callsBy cs f args h).run= .ok (r,h'):=by rw[←hx];exact hc
 show Con X.E f args h r h';unfold callsBy at hc';split at hc'
 ·rename_i c hf
  obtain⟨hq,hr⟩:=brf_ok hc';cases hr
  have hid:c.f=f:=by simpa using List.find?_some hf
  have:=hcs c (List.mem_of_find?_eq_some hf) _ (ask_of hq) h;rw[hid]at this;exact this.args (Les.drop1 args)
 ·cases hc'
theorem noCalls{X:SX}(h: ∀f args m,X.call f args m= .fail):CallOK X.E X.calls:=fun f args m r m' hc=>by
 have:X.calls f args m=(X.call f args m).run:=rfl;rw[this,h]at hc;cases hc
theorem Con.pureF{X:SX}(g:Ground X.E)(hG: ∀i cs,X.E.G i=some cs→noRefs cs=true)(hcall:CallOK X.E X.calls){f:FuncId}{fn:Func}(hfn:X.E.P.funcs[f]?=some fn){c:Code}(hb:fn.body=some c)(hname:(fn.name== "runtime.NumGoroutine")=false){args:List AV}{K:Known}
  (hK:KOK X.E (max fn.ntmps args.length) [] c K) (hn:noRefs args=true) {v r:AV} {h':H} (hr:(runF X K fn c args []).run= .ok (v,h')) (hl:Le v r) (hr':noRef r=true) (h:H):Con X.E f args h r h:=
 Con.based hG (Con.of_run g hcall hfn hb hname hK hr) hn hl hr' h
noncomputable def runV(X:SX)(K:Known)(fn:Func)(c:Code)(args:List AV):T AV:=(runF X K fn c args []).bind fun r=> .leaf r.1
theorem Con.pureV{X:SX}(g:Ground X.E)(hG: ∀i cs,X.E.G i=some cs→noRefs cs=true)(hcall:CallOK X.E X.calls){f:FuncId}{fn:Func}(hfn:X.E.P.funcs[f]?=some fn){c:Code}(hb:fn.body=some c)(hname:(fn.name== "runtime.NumGoroutine")=false){args:List AV}{K:Known}
  (hK:KOK X.E (max fn.ntmps args.length) [] c K) (hn:noRefs args=true) {v r:AV} (hr:(runV X K fn c args).run= .ok v) (hl:Le v r) (hr':noRef r=true) (h:H):Con X.E f args h r h:=by
 obtain⟨⟨v',h'⟩,h2,h3⟩:=T.bind_ok hr;cases h3;exact Con.pureF g hG hcall hfn hb hname hK hn h2 hl hr' h
theorem Tri.seen{X:SX}(g:Ground X.E)(hcall:CallOK X.E X.calls){K:Known}{N:Nat}{h0:H}{body:Code}(hK:KOK X.E N h0 body K){c:Code}{p:List Nat}(hp:sub body p=c){τ:Fr}{h:H}{L:List Nat}{x:AM.X}{vs:List AV}{h':H}
  (hr:(obsK X K N c p τ h L).run= .ok (x,vs,h')) {sl:List (Nat×AV)} (hs: ∀q,q∈sl→AM.frm (L.zip vs) q.1=q.2):Tri X.E N h0 c τ h x (AM.frm sl) h':=
 .wk .refl (Tri.of_obs g hcall hK hp hr) (Wk.fewer hs)
theorem eq_rounds{E:Env}{N:Nat}{h0:H}{c:Code}{α:Type}{L M:List α}{z:α}{st:Nat→List (Nat×AV)}{hm:H}{rt:List (Nat×AV)}{id:Nat}(hlen:M.length=L.length)
  (hgo: ∀j,j<L.length→L.getD j z=M.getD j z→Tri E N h0 c (frm (st j)) hm .normal (frm (st (j+1))) hm)
  (hhit: ∀j,j<L.length→L.getD j z≠M.getD j z→Tri E N h0 c (frm (st j)) hm .ret (frm rt) hm)
  (hout:Tri E N h0 c (frm (st L.length)) hm (.exit id) (frm (st L.length)) hm):
  (L=M→TRounds E N h0 c (frm (st 0)) hm (.exit id) (frm (st L.length)) hm)∧(L≠M→TRounds E N h0 c (frm (st 0)) hm .ret (frm rt) hm):=by
 have key: ∀(d j:Nat),j+d=L.length→(L.drop j=M.drop j→TRounds E N h0 c (frm (st j)) hm (.exit id) (frm (st L.length)) hm)∧(L.drop j≠M.drop j→TRounds E N h0 c (frm (st j)) hm .ret (frm rt) hm):=by
  intro d
  induction d with
  |zero=>
   intro j hj
   obtain rfl:j=L.length:=by omega
   refine⟨fun _=> .done hout nofun,fun h=>?_⟩;rw[List.drop_length,←hlen,List.drop_length]at h;exact absurd rfl h
  |succ d ih=>
   intro j hj
   have hjl:j<L.length:=by omega
   have hjm:j<M.length:=by omega
   have e1:L.drop j=L.getD j z::L.drop (j+1):=by rw[List.drop_eq_getElem_cons hjl,List.getD_eq_getElem?_getD,List.getElem?_eq_getElem hjl];rfl
   have e2:M.drop j=M.getD j z::M.drop (j+1):=by rw[List.drop_eq_getElem_cons hjm,List.getD_eq_getElem?_getD,List.getElem?_eq_getElem hjm];rfl
   obtain⟨i1,i2⟩:=ih (j+1) (by omega);rw[e1,e2]
   by_cases he:L.getD j z=M.getD j z
   ·have h1:=hgo j hjl he
    refine⟨fun h=> .more h1 (i1 (List.cons.inj h).2),fun h=> .more h1 (i2 fun h'=>h (by rw[he,h']))⟩
   ·have h1:=hhit j hjl he
    exact⟨fun h=>absurd (List.cons.inj h).1 he,fun _=> .done h1 nofun⟩
 exact key L.length 0 (by omega)
theorem ba_beq_iff(a b:ByteArray):(a==b)=true↔a=b:=by
 obtain⟨a⟩:=a;obtain⟨b⟩:=b;show(a==b)=true↔_;rw[beq_iff_eq];exact⟨fun h=>by rw[h],fun h=>by cases h;rfl⟩
theorem ask_iff{b:Bool}{p:Prop}(h:b=true↔p):b=ask p:=by
 by_cases hp:p
 ·rw[ask_true hp,h.2 hp]
 ·have:ask p=false:=by simp[ask,hp]
  rw[this];cases b with
  |false=>rfl
  |true=>exact absurd (h.1 rfl) hp
theorem ask_false{p:Prop}(h: ¬p):ask p=false:=by simp[ask,h]
def encL(t:Ty)(L:List t.I):AV:= .lst t.cells (L.map t.elem) .open_
theorem encL_noRef(t:Ty)(L:List t.I):noRef (encL t L)=true:=(Ty.slice t).elem_noRef L
theorem getD_elem{t:Ty}{L:List t.I}{j:Nat}(h:j<L.length)(d:AV):(L.map t.elem).getD j d=t.elem (L.getD j t.zero):=by
 simp[List.getD_eq_getElem?_getD,List.getElem?_eq_getElem h]
theorem wrap64{n:Int}(h0:0≤n)(h1:n<9223372036854775808):IntKind.i64.wrap n=n:=by
 have e1:IntKind.i64.bits=64:=rfl;have e2:IntKind.i64.signed=true:=rfl;simp only[IntKind.wrap,e1,e2];have:n%(2 ^ 64:Int)=n:=Int.emod_eq_of_lt h0 (by omega);rw[this];simp;intro h;omega
theorem wrap_next{j:Nat}(h:j<1000000000000000):IntKind.i64.wrap ((j:Int)+1)=((j+1:Nat):Int):=by rw[wrap64 (by omega) (by omega)];simp
theorem idx_ok{P:Program}{e:TypeId}{t:Ty}{L:List t.I}{j:Nat}(h:j<L.length)(hf:fitsC P e (t.elem t.zero)=true):
  (decide ((0:Int)≤(j:Int))&&decide ((j:Int)<(((L.map t.elem).length:Nat):Int))&&fitsC P e ((L.map t.elem).getD (j:Int).toNat undef))=true:=by
 rw[Int.toNat_natCast,getD_elem h,t.fits_any _ hf];simp;omega
theorem lt_ok{t:Ty}{L:List t.I}{j:Nat}(h:j<L.length):decide ((j:Int)<(((L.map t.elem).length:Nat):Int))=true:=by simp;omega
theorem lt_no{t:Ty}{L:List t.I}:decide (((L.length:Nat):Int)<(((L.map t.elem).length:Nat):Int))=false:=by simp
theorem Ty.elem_row{t:Ty}{x y:t.I}(h:t.elem x=t.elem y):t.row x=t.row y:=by
 have e:=congrArg AV.cells h
 rw[t.elem_cells,t.elem_cells]at e;exact e
theorem map_inj{α β:Type}{f:α→β}(hf: ∀x y,f x=f y→x=y): ∀{l m:List α},l.map f=m.map f→l=m
 | [],[],_=>rfl
 | [],y::m,h=>by simp at h
 |x::l,[],h=>by simp at h
 |x::l,y::m,h=>by
  simp only[List.map_cons,List.cons.injEq]at h;rw[hf _ _ h.1,map_inj hf h.2]
theorem Ty.row_inj: ∀(t:Ty) (x y:t.I),t.row x=t.row y→x=y
 | .int k,x,y,h=>by cases h;rfl
 | .bool,x,y,h=>by cases h;rfl
 | .str,x,y,h=>by cases h;rfl
 | .slice t,x,y,h=>by
   simp only[Ty.row,List.cons.injEq,AV.lst.injEq,true_and,and_true]at h;exact map_inj (fun a b hab=>Ty.row_inj t a b (Ty.elem_row hab)) h
 | .pair a b,(x1,x2),(y1,y2),h=>by
   simp only[Ty.row]at h;obtain⟨h1,h2⟩:=List.append_inj h (by rw[a.row_length,a.row_length]);rw[Ty.row_inj a _ _ h1,Ty.row_inj b _ _ h2]
 | .one a,x,y,h=>Ty.row_inj a x y h
theorem Ty.elem_inj{t:Ty}{x y:t.I}(h:t.elem x=t.elem y):x=y:=Ty.row_inj t x y (Ty.elem_row h)
theorem encL_inj{t:Ty}{L M:List t.I}(h:encL t L=encL t M):L=M:=by
 simp only[encL,AV.lst.injEq,true_and,and_true]at h;exact map_inj (fun _ _ h=>Ty.elem_inj h) h
noncomputable def eqRes(args:List AV):AV:= .bool (ask (args.getD 0 undef=args.getD 1 undef))
def okLL(t:Ty)(args:List AV):Prop:= ∃L M:List t.I,args= [encL t L,encL t M]∧L.length<1000000000000000
noncomputable def clLL(f:FuncId)(t:Ty):Cl:=⟨f,okLL t,eqRes⟩
theorem eqRes_LL{t:Ty}{L M:List t.I}:eqRes [encL t L,encL t M]= .bool (ask (L=M)):=by
 simp only[eqRes,List.getD_cons_zero,List.getD_cons_succ]
 congr 1
 exact(ask_iff ⟨fun h=>by have:=ask_of h;rw[this],fun h=>ask_true (encL_inj h)⟩).symm
theorem clLL_con{E:Env}{f:FuncId}{t:Ty}(hc: ∀(L M:List t.I),L.length<1000000000000000→ ∀h,Con E f [encL t L,encL t M] h (.bool (ask (L=M))) h): ∀args,(clLL f t).ok args→ ∀h,Con E (clLL f t).f args h ((clLL f t).res args) h:=by
 rintro args ⟨L,M,rfl,hl⟩ h;show Con E f _ h (eqRes _) h;rw[eqRes_LL];exact hc L M hl h
def clK(f:FuncId):Cl:=⟨f,fun args=>args= [],fun _=> .bool true⟩
theorem clK_con{E:Env}{f:FuncId}(hc: ∀h,Con E f [] h (.bool true) h): ∀args,(clK f).ok args→ ∀h,Con E (clK f).f args h ((clK f).res args) h:=by
 rintro args rfl h;exact hc h
def okE1(t:Ty)(args:List AV):Prop:= ∃x:t.I,args= [t.elem x]∧t.okay x
noncomputable def lightC(cs:List Cl):FuncId→List AV→Option AV:=fun f args=>match cs.find? (fun c=>c.f==f)with
 |some c=>(match ask (c.ok (args.map drop1))with
  |true=>some (c.res (args.map drop1))
  |false=>none)
 |none=>none
theorem lightC_ok{E:Env}{cs:List Cl}(hC:E.C=lightC cs)(hcs: ∀c,c∈cs→ ∀args,c.ok args→ ∀h,Con E c.f args h (c.res args) h)(hf: ∀c,c∈cs→ ∀args,noF (c.res args)=true):COK E:=by
 intro f args h r h' hc
 have hc':(match lightC cs f args with
  |some r=>R.ok (thaw h r)
  |none=> .no "")= .ok (r,h'):=by rw[←hC];exact hc
 show Con E f args h r h';unfold lightC at hc'
 cases hfi:cs.find? (fun c=>c.f==f)with
 |none=>rw [hfi]at hc';cases hc'
 |some c=>
  rw[hfi]at hc';simp only at hc'
  cases hq:ask (c.ok (args.map drop1))with
  |false=>rw [hq]at hc';cases hc'
  |true=>
   rw[hq]at hc';simp only at hc';rw[noF_thaw _ (hf c (List.mem_of_find?_eq_some hfi) _)]at hc';cases hc'
   have hid:c.f=f:=by simpa using List.find?_some hfi
   have:=hcs c (List.mem_of_find?_eq_some hfi) _ (ask_of hq) h;rw[hid]at this;exact this.args (Les.drop1 args)
theorem bL{α:Type}{E:Env}{cs:List Cl}{g:FuncId}{vs:List AV}{v:AV}{t f:T α}{x:R α}{c:Cl}(hC:E.C=lightC cs)(hf:cs.find? (fun c=>c.f==g)=some c)(hok:c.ok (vs.map drop1))(hv:c.res (vs.map drop1)=v)(hn:noF v=true)(ht:t.run=x):(T.br (askL E g vs v) t f).run=x:=by
 refine bT ?_ ht
 simp only[askL,decide_eq_true_eq];refine⟨?_,hn⟩;rw[hC];unfold lightC;rw[hf];simp only[ask_true hok,hv]
end Go.Proofs.YthnajefdiljneaaDoor.AM
namespace Go.Proofs.YthnajefdiljneaaDoor.AM
set_option linter.unusedVariables false
set_option linter.unusedSimpArgs false
set_option linter.unusedSectionVars false
noncomputable def firstFrom(p:Nat→Prop):Nat→Nat→Option Nat
 |0,_=>none
 |d+1,j=>match ask (p j)with
  |true=>some j
  |false=>firstFrom p d (j+1)
noncomputable def firstI(p:Nat→Prop)(n:Nat):Option Nat:=firstFrom p n 0
theorem firstFrom_spec(p:Nat→Prop): ∀d j,match firstFrom p d j with
  |some i=>j≤i∧i<j+d∧p i∧ ∀k,j≤k→k<i→ ¬p k
  |none=> ∀k,j≤k→k<j+d→ ¬p k
 |0,j=>fun k h1 h2=>absurd h2 (by omega)
 |d+1,j=>by
  simp only[firstFrom]
  cases hq:ask (p j)with
  |true=>
   exact⟨Nat.le_refl _,by omega,ask_of hq,fun k h1 h2=>absurd h1 (by omega)⟩
  |false=>
   have hn: ¬p j:=fun h=>by rw[ask_true h]at hq;cases hq
   have ih:=firstFrom_spec p d (j+1)
   show match firstFrom p d (j+1)with
    |some i=>j≤i∧i<j+(d+1)∧p i∧ ∀k,j≤k→k<i→ ¬p k
    |none=> ∀k,j≤k→k<j+(d+1)→ ¬p k
   cases hf:firstFrom p d (j+1)with
   |some i=>
    rw[hf]at ih;refine⟨by omega,by omega,ih.2.2.1,fun k h1 h2=>?_⟩
    rcases Nat.eq_or_lt_of_le h1 with rfl|h3
    ·exact hn
    ·exact ih.2.2.2 k h3 h2
   |none=>
    rw[hf]at ih;intro k h1 h2
    rcases Nat.eq_or_lt_of_le h1 with rfl|h3
    ·exact hn
    ·exact ih k h3 (by omega)
theorem firstI_some{p:Nat→Prop}{n i:Nat}(h:firstI p n=some i):i<n∧p i∧ ∀k,k<i→ ¬p k:=by
 have:=firstFrom_spec p n 0;unfold firstI at h;rw[h]at this;exact⟨by omega,this.2.2.1,fun k hk=>this.2.2.2 k (Nat.zero_le _) hk⟩
theorem firstI_none{p:Nat→Prop}{n:Nat}(h:firstI p n=none): ∀k,k<n→ ¬p k:=by
 have:=firstFrom_spec p n 0;unfold firstI at h;rw[h]at this
 exact fun k hk=>this k (Nat.zero_le _) (by omega)
def placeOf:Option Nat→Int
 |some i=>i
 |none=> -1
theorem find_rounds{E:Env}{N:Nat}{h0:H}{c:Code}{p:Nat→Prop}{n:Nat}{st:Nat→List (Nat×AV)}{hm:H}{rt:Nat→List (Nat×AV)}{id:Nat}
  (hgo: ∀j,j<n→ ¬p j→Tri E N h0 c (frm (st j)) hm .normal (frm (st (j+1))) hm)
  (hhit: ∀j,j<n→p j→Tri E N h0 c (frm (st j)) hm .ret (frm (rt j)) hm)
  (hout:Tri E N h0 c (frm (st n)) hm (.exit id) (frm (st n)) hm):
  match firstI p n with
  |some i=>TRounds E N h0 c (frm (st 0)) hm .ret (frm (rt i)) hm
  |none=>TRounds E N h0 c (frm (st 0)) hm (.exit id) (frm (st n)) hm:=by
 have key: ∀(d j:Nat),j+d=n→match firstFrom p d j with
   |some i=>TRounds E N h0 c (frm (st j)) hm .ret (frm (rt i)) hm
   |none=>TRounds E N h0 c (frm (st j)) hm (.exit id) (frm (st n)) hm:=by
  intro d
  induction d with
  |zero=>
   intro j hj
   obtain rfl:j=n:=by omega
   exact .done hout nofun
  |succ d ih=>
   intro j hj;simp only[firstFrom]
   cases hq:ask (p j)with
   |true=>exact .done (hhit j (by omega) (ask_of hq)) nofun
   |false=>
    have hn: ¬p j:=fun h=>by rw[ask_true h]at hq;cases hq
    have h1:=ih (j+1) (by omega)
    show match firstFrom p d (j+1)with
     |some i=>TRounds E N h0 c (frm (st j)) hm .ret (frm (rt i)) hm
     |none=>TRounds E N h0 c (frm (st j)) hm (.exit id) (frm (st n)) hm
    cases hf:firstFrom p d (j+1)with
    |some i=>rw [hf]at h1;exact .more (hgo j (by omega) hn) h1
    |none=>rw [hf]at h1;exact .more (hgo j (by omega) hn) h1
 exact key n 0 (by omega)
noncomputable def callsRun(rs:List (FuncId×SX×Func×Code)):FuncId→List AV→H→T (AV×H):=fun f args h=>match rs.find? (fun r=>r.1==f)with
 |some r=>runF r.2.1 (fun _=>none) r.2.2.1 r.2.2.2 args h
 |none=> .fail
theorem callsRun_ok{X:SX}{rs:List (FuncId×SX×Func×Code)}(hx:X.call=callsRun rs)
  (hrs: ∀r,r∈rs→Ground r.2.1.E∧CallOK r.2.1.E r.2.1.calls∧r.2.1.E=X.E∧X.E.P.funcs[r.1]?=some r.2.2.1∧r.2.2.1.body=some r.2.2.2∧(r.2.2.1.name== "runtime.NumGoroutine")=false):CallOK X.E X.calls:=by
 intro f args h r h' hc
 have hc':(callsRun rs f args h).run= .ok (r,h'):=by rw[←hx];exact hc
 show Con X.E f args h r h';unfold callsRun at hc';split at hc'
 ·rename_i q hf
  obtain⟨k1,k2,k3,k4,k5,k6⟩:=hrs q (List.mem_of_find?_eq_some hf)
  have hid:q.1=f:=by simpa using List.find?_some hf
  subst hid
  rw[←k3]at k4 ⊢
  exact Con.of_run k1 k2 k4 k5 k6 KOK.none hc'
 ·cases hc'
structure CH where
 f:FuncId
 args:List AV
 h:H
 r:AV
 h':H
theorem Tri.seenB{X:SX}(g:Ground X.E)(hG: ∀i cs,X.E.G i=some cs→noRefs cs=true)(hcall:CallOK X.E X.calls){K:Known}{N:Nat}{h0:H}{body:Code}(hK:KOK X.E N h0 body K){c:Code}{p:List Nat}(hp:sub body p=c){τ:Fr}{h:H}{L:List Nat}{x:AM.X}{vs:List AV}{h' extra:H}
  (hr:(obsK X K N c p τ h L).run= .ok (x,vs,h'++extra)) {sl:List (Nat×AV)} (hn:h0.length≤h'.length) (hh: ∀x,x∈h'→x≠ .hole)
  (hb: ∀x,x∈h'→renB (fun b=>if b<h'.length then b else b+extra.length) x=x)
  (hs: ∀q,q∈sl→AM.frm (L.zip vs) q.1=q.2∧AM.ren (fun b=>if b<h'.length then b else b+extra.length) q.2=q.2∧isFsl q.2=false):Tri X.E N h0 c τ h x (AM.frm sl) h':=
 .wk .refl (Tri.of_obs g hcall hK hp hr) ((Wk.fewer fun q hq=>(hs q hq).1).trans (Wk.cutF (sl:=sl) (h':=h') (extra:=extra) hG hn hh hb (fun q hq=>(hs q hq).2)))
end Go.Proofs.YthnajefdiljneaaDoor.AM
namespace Go.Proofs.YthnajefdiljneaaDoor.AM
set_option linter.unusedVariables false
set_option linter.unusedSimpArgs false
set_option linter.unusedSectionVars false
end Go.Proofs.YthnajefdiljneaaDoor.AM
namespace Go.Proofs.YthnajefdiljneaaDoor.AM
set_option linter.unusedVariables false
set_option linter.unusedSimpArgs false
set_option linter.unusedSectionVars false
section
variable {P:Program} {S:TypeId→Bool} {kt:TypeId} {s:ByteArray} {l:List ByteArray}
end
theorem find_roundsH{E:Env}{N:Nat}{h0:H}{c:Code}{p:Nat→Prop}{n:Nat}{st:Nat→List (Nat×AV)}{hm:Nat→H}{rt:Nat→List (Nat×AV)}{id:Nat}
  (hgo: ∀j,j<n→(∀k,k<j→ ¬p k)→ ¬p j→Tri E N h0 c (frm (st j)) (hm j) .normal (frm (st (j+1))) (hm (j+1)))
  (hhit: ∀j,j<n→(∀k,k<j→ ¬p k)→p j→Tri E N h0 c (frm (st j)) (hm j) .ret (frm (rt j)) (hm j))
  (hout:Tri E N h0 c (frm (st n)) (hm n) (.exit id) (frm (st n)) (hm n)):
  match firstI p n with
  |some i=>TRounds E N h0 c (frm (st 0)) (hm 0) .ret (frm (rt i)) (hm i)
  |none=>TRounds E N h0 c (frm (st 0)) (hm 0) (.exit id) (frm (st n)) (hm n):=by
 have key: ∀(d j:Nat),j+d=n→(∀k,k<j→ ¬p k)→match firstFrom p d j with
   |some i=>TRounds E N h0 c (frm (st j)) (hm j) .ret (frm (rt i)) (hm i)
   |none=>TRounds E N h0 c (frm (st j)) (hm j) (.exit id) (frm (st n)) (hm n):=by
  intro d
  induction d with
  |zero=>
   intro j hj _
   obtain rfl:j=n:=by omega
   exact .done hout nofun
  |succ d ih=>
   intro j hj hb;simp only[firstFrom]
   cases hq:ask (p j)with
   |true=>exact .done (hhit j (by omega) hb (ask_of hq)) nofun
   |false=>
    have hn: ¬p j:=fun h=>by rw[ask_true h]at hq;cases hq
    have h1:=ih (j+1) (by omega) (fun k hk=>by
     rcases Nat.lt_succ_iff_lt_or_eq.1 hk with h|h
     ·exact hb k h
     ·rw[h];exact hn)
    show match firstFrom p d (j+1)with
     |some i=>TRounds E N h0 c (frm (st j)) (hm j) .ret (frm (rt i)) (hm i)
     |none=>TRounds E N h0 c (frm (st j)) (hm j) (.exit id) (frm (st n)) (hm n)
    cases hf:firstFrom p d (j+1)with
    |some i=>rw [hf]at h1;exact .more (hgo j (by omega) hb hn) h1
    |none=>rw [hf]at h1;exact .more (hgo j (by omega) hb hn) h1
 exact key n 0 (by omega) (fun k hk=>by omega)
def upto{α:Type}(f:α→ByteArray)(L:List α)(j:Nat):List ByteArray:=(L.take j).map f
end Go.Proofs.YthnajefdiljneaaDoor.AM
namespace Go.Proofs.YthnajefdiljneaaDoor.AM
set_option linter.unusedVariables false
set_option linter.unusedSimpArgs false
set_option linter.unusedSectionVars false
def zig(n:Int):Int:=if n<0 then-2*n-1 else 2*n
def vb:Nat→Int→List AV
 |0,_=> []
 |m+1,u=>if 128≤u then .int .u8 (u%128+128)::vb m (u / 128)else [.int .u8 u]
def numB(n:Int):List AV:=vb 10 (zig n)
def txB(s:ByteArray):List AV:=numB (s.size:Int)++ofBytes s
def IsB(l:List AV):Prop:= ∀y,y∈l→ ∃n,y=AV.int .u8 n
theorem IsB.nil:IsB []:=fun y h=>by cases h
theorem IsB.append{l m:List AV}(a:IsB l)(b:IsB m):IsB (l++m):=fun y h=>(List.mem_append.1 h).elim (a y) (b y)
theorem IsB.one(n:Int):IsB [.int .u8 n]:=fun y h=>⟨n,List.mem_singleton.1 h⟩
theorem vb_isB: ∀m u,IsB (vb m u)
 |0,_=>IsB.nil
 |m+1,u=>by
  unfold vb;split
  ·exact IsB.append (l:= [_]) (IsB.one _) (vb_isB m _)
  ·exact IsB.one _
theorem vb_len: ∀m u,(vb m u).length≤m
 |0,_=>Nat.le_refl _
 |m+1,u=>by
  have:=vb_len m (u / 128);unfold vb;split
  ·simp only[List.length_cons];omega
  ·simp
theorem ofBytes_isB(s:ByteArray):IsB (ofBytes s):=fun y h=>by
 obtain⟨c,_,rfl⟩:=List.mem_map.1 h;exact⟨_,rfl⟩
theorem ofBytes_len(s:ByteArray):(ofBytes s).length=s.size:=by simp[ofBytes]
theorem numB_isB(n:Int):IsB (numB n):=vb_isB _ _
theorem numB_len(n:Int):(numB n).length≤10:=vb_len _ _
theorem txB_isB(s:ByteArray):IsB (txB s):=(numB_isB _).append (ofBytes_isB s)
theorem txB_len(s:ByteArray):(txB s).length≤10+s.size:=by
 have:=numB_len (s.size:Int);simp only[txB,List.length_append,ofBytes_len];omega
theorem IsB.leafs{l:List AV}(h:IsB l):(l.all fun y=>y.cells.all AV.leaf)=true:=by
 rw[List.all_eq_true];intro y hy;obtain⟨n,rfl⟩:=h y hy;rfl
theorem IsB.noRefs{l:List AV}(h:IsB l):noRefs l=true:=noRefs_mem l fun y hy=>by
 obtain⟨n,rfl⟩:=h y hy;rfl
theorem zig_range{n:Int}(h0: -9223372036854775808≤n)(h1:n<9223372036854775808):0≤zig n∧zig n<18446744073709551616:=by
 unfold zig;split<;>omega
theorem wrapU64(n:Int):IntKind.u64.wrap n=n%18446744073709551616:=rfl
theorem wrapU8(n:Int):IntKind.u8.wrap n=n%256:=rfl
abbrev loP(u:Int):AV:= .int .u8 (IntKind.u8.wrap ((BitVec.ofInt 8 (IntKind.u8.wrap u)|||BitVec.ofInt 8 128).toNat:Int))
abbrev laP(u:Int):AV:= .int .u8 (IntKind.u8.wrap u)
abbrev zigP(n:Int):Int:=IntKind.u64.wrap ((BitVec.ofInt 64 (IntKind.u64.wrap (IntKind.u64.wrap n*2 ^ 1)) ^^^ BitVec.ofInt 64 (IntKind.u64.wrap (n.fdiv (2 ^ 63)))).toNat:Int)
set_option maxRecDepth 100000 in
theorem or128: ∀x:Fin 256,(x.val|||128)=x.val%128+128:=by decide
theorem ofInt_toNat{w:Nat}{x:Int}(h0:0≤x)(h1:x<2 ^ w):(BitVec.ofInt w x).toNat=x.toNat:=by
 rw[BitVec.toNat_ofInt]
 congr 1
 rw[Int.emod_eq_of_lt h0 (by simpa using h1)]
theorem loP_eq(u:Int)(h:0≤u):loP u= .int .u8 (u%128+128):=by
 unfold loP
 congr 1
 have h1:(BitVec.ofInt 8 (IntKind.u8.wrap u)).toNat=(u%256).toNat:=by rw[wrapU8];exact ofInt_toNat (by omega) (by show u%256<256;omega)
 have h2:(BitVec.ofInt 8 128).toNat=128:=rfl;rw[BitVec.toNat_or,h1,h2]
 have h3:=or128 ⟨(u%256).toNat,by omega⟩
 simp only at h3;rw[h3,wrapU8];omega
theorem zigP_eq(n:Int)(h0: -9223372036854775808≤n)(h1:n<9223372036854775808):zigP n=zig n:=by
 unfold zigP zig
 have e1:IntKind.u64.wrap (IntKind.u64.wrap n*2 ^ 1)=(2*n)%18446744073709551616:=by rw[wrapU64,wrapU64];omega
 have e2:(BitVec.ofInt 64 ((2*n)%18446744073709551616)).toNat=((2*n)%18446744073709551616).toNat:=ofInt_toNat (by omega) (by show _<(18446744073709551616:Int);omega);have e3:n.fdiv (2 ^ 63)=n / 9223372036854775808:=Int.fdiv_eq_ediv_of_nonneg _ (by decide);rw[e1,e3,BitVec.toNat_xor,e2]
 by_cases h:n<0
 ·rw[if_pos h]
  have e4:n / 9223372036854775808= -1:=by omega
  have e5:BitVec.ofInt 64 (IntKind.u64.wrap (-1))=BitVec.allOnes 64:=by decide
  rw[e4,e5,BitVec.toNat_allOnes]
  have e6:((2*n)%18446744073709551616).toNat ^^^ (2 ^ 64-1)=2 ^ 64-1-((2*n)%18446744073709551616).toNat:=by
   have:=BitVec.toNat_not (x:=BitVec.ofInt 64 ((2*n)%18446744073709551616));rw[←BitVec.xor_allOnes,BitVec.toNat_xor,e2,BitVec.toNat_allOnes]at this;exact this
  rw[e6,wrapU64];omega
 ·rw[if_neg h]
  have e4:n / 9223372036854775808=0:=by omega
  have e5:(BitVec.ofInt 64 (IntKind.u64.wrap 0)).toNat=0:=by decide
  rw[e4,e5,Nat.xor_zero,wrapU64];omega
abbrev room(n m:Nat)(new:List AV):Bool:=decide ((n+m)*1≤200000000000000)&&decide (n+m≤200000000000000)&&new.all fun y=>y.cells.all AV.leaf
theorem room_ok{n m:Nat}{new:List AV}(h:n+m≤200000000000000)(hb:IsB new):room n m new=true:=by
 unfold room;rw[hb.leafs,decide_eq_true h,decide_eq_true (by omega)];rfl
noncomputable def lastP(K:AV→T AV)(bs acc:List AV):T AV:=
 .br true (.br true (.br true (.br (decide (0≤((bs.length:Nat):Int).toNat)&&decide (((bs.length:Nat):Int).toNat≤bs.length)&&decide (((bs.length:Nat):Int).toNat=((bs.length:Nat):Int).toNat))
  (.br (room (bs.take (((bs.length:Nat):Int).toNat-0)).length acc.length acc) (.br acc.isEmpty (K (.lst 1 (bs.take (((bs.length:Nat):Int).toNat-0)) .clip)) (K (.lst 1 (bs.take (((bs.length:Nat):Int).toNat-0)++acc) (.own 3)))) .fail) .fail) .fail) .fail) .fail
noncomputable def putP(K:AV→T AV)(bs:List AV):Nat→List AV→Int→T AV
 |0,_,u=> .br (decide (128≤u)) (.br false .fail .fail) (.br false .fail .fail)
 |m+1,acc,u=> .br (decide (128≤u)) (.br true (putP K bs m (acc++ [loP u]) (u.fdiv (2 ^ 7))) .fail) (lastP K bs (acc++ [laP u]))
theorem lastP_run{K:AV→T AV}{bs acc:List AV}{x:R AV}(h1:bs.length+acc.length≤200000000000000)(h2:IsB acc)(h3:acc≠ [])(hx:(K (.lst 1 (bs++acc) (.own 3))).run=x):(lastP K bs acc).run=x:=by
 have e:bs.take (((bs.length:Nat):Int).toNat-0)=bs:=by rw[Int.toNat_natCast];simp
 unfold lastP;rw[e];refine bT rfl (bT rfl (bT rfl (bT (by simp) (bT (room_ok h1 h2) (bF ?_ hx)))))
 cases acc with
 |nil=>exact absurd rfl h3
 |cons a l=>rfl
theorem putP_run{K:AV→T AV}{bs:List AV}{x:R AV}: ∀(m:Nat) (acc:List AV) (u:Int),0≤u→u<128 ^ m→0<m→bs.length+acc.length+m≤200000000000000→IsB acc→(K (.lst 1 (bs++(acc++vb m u)) (.own 3))).run=x→(putP K bs m acc u).run=x
 |0,acc,u,h0,h1,h2,_,_,_=>by omega
 |m+1,acc,u,h0,h1,_,hr,hb,hx=>by
  unfold putP;unfold vb at hx
  by_cases h:128≤u
  ·rw[if_pos h]at hx
   have hf:u.fdiv (2 ^ 7)=u / 128:=Int.fdiv_eq_ediv_of_nonneg _ (by decide)
   have hm:0<m:=by
    rcases Nat.eq_zero_or_pos m with rfl|h
    ·simp at h1;omega
    ·exact h
   refine bT (decide_eq_true h) (bT rfl ?_);rw[hf,loP_eq u h0]
   refine putP_run m _ _ (by omega) ?_ hm (by simp;omega) (hb.append (IsB.one _)) (by rw[List.append_assoc];exact hx)
   rw[Int.pow_succ]at h1;omega
  ·rw[if_neg h]at hx
   have hl:laP u= .int .u8 u:=by unfold laP;rw[wrapU8,Int.emod_eq_of_lt h0 (by omega)]
   rw[hl];refine bF (decide_eq_false h) (lastP_run (by simp;omega) (hb.append (IsB.one _)) (by simp) hx)
abbrev shR(u:Int):Int:=IntKind.u64.wrap (u.tdiv 128)
abbrev loR(u:Int):AV:= .int .u8 (IntKind.u8.wrap (IntKind.u8.wrap (u.tmod 128)+128))
theorem loR_eq(u:Int)(h:0≤u):loR u= .int .u8 (u%128+128):=by
 unfold loR;rw[Int.tmod_eq_emod_of_nonneg h,wrapU8,wrapU8]
 congr 1;omega
theorem shR_eq(u:Int)(h:0≤u)(h1:u<18446744073709551616):shR u=u / 128:=by
 unfold shR;rw[Int.tdiv_eq_ediv_of_nonneg h,wrapU64];omega
noncomputable def refL(K:AV→Nat→T AV):Nat→List AV→Nat→Int→T AV
 |0,_,_,_=> .fail
 |m+1,l,h,u=> .br (decide (128≤u)) (.br true (.br (room l.length 1 [loR u]) (.br true (refL K m (l++ [loR u]) (h+2) (shR u)) .fail) .fail) .fail) (.br (room l.length 1 [laP u]) (K (.lst 1 (l++ [laP u]) (.own (h+1))) (h+2)) .fail)
noncomputable def refN(K:AV→Nat→T AV):Nat→Nat→Int→T AV
 |0,_,_=> .fail
 |m+1,h,u=> .br (decide (128≤u)) (.br true (.br true (.br false (.br true (refN K m (h+1) (shR u)) .fail) (.br true (refL K m [loR u] (h+2) (shR u)) .fail)) .fail) .fail) (.br true (.br false (K .nils (h+1)) (K (.lst 1 [laP u] (.own (h+1))) (h+2))) .fail)
theorem refL_run{K:AV→Nat→T AV}{y:List AV}: ∀(m:Nat) (l:List AV) (h:Nat) (u:Int),0≤u→u<128 ^ m→u<18446744073709551616→0<m→l.length+m≤200000000000000→l++vb m u=y→ ∃h',(refL K m l h u).run=(K (.lst 1 y (.own (h'+1))) (h'+2)).run
 |0,_,_,_,_,_,_,h,_,_=>by omega
 |m+1,l,h,u,h0,h1,h2,_,hr,hy=>by
  unfold refL;unfold vb at hy
  by_cases hc:128≤u
  ·rw[if_pos hc]at hy
   have hm:0<m:=by
    rcases Nat.eq_zero_or_pos m with rfl|h
    ·simp at h1;omega
    ·exact h
   have hb:IsB [loR u]:=IsB.one _;rw[Int.pow_succ]at h1;obtain⟨h',hx⟩:=refL_run (K:=K) (y:=y) m (l++ [.int .u8 (u%128+128)]) (h+2) (u / 128) (by omega) (by omega) (by omega) hm (by simp;omega) (by rw[List.append_assoc];exact hy);refine⟨h',bT (decide_eq_true hc) (bT rfl (bT (room_ok (by omega) hb) (bT rfl ?_)))⟩;rw[shR_eq u h0 h2,loR_eq u h0];exact hx
  ·rw[if_neg hc]at hy
   have hl:laP u= .int .u8 u:=by unfold laP;rw[wrapU8,Int.emod_eq_of_lt h0 (by omega)]
   have hb:IsB [laP u]:=IsB.one _;refine⟨h,bF (decide_eq_false hc) (bT (room_ok (by omega) hb) ?_)⟩;rw[hl,hy]
theorem refN_run{K:AV→Nat→T AV}{y:List AV}(m h:Nat)(u:Int)(h0:0≤u)(h1:u<128 ^ m)(h2:u<18446744073709551616)(hm:0<m)(hl:m≤1000)(hy:vb m u=y): ∃h',(refN K m h u).run=(K (.lst 1 y (.own (h'+1))) (h'+2)).run:=by
 obtain⟨m,rfl⟩: ∃k,m=k+1:=⟨m-1,by omega⟩;unfold refN;unfold vb at hy
 by_cases hc:128≤u
 ·rw[if_pos hc]at hy
  have hm:0<m:=by
   rcases Nat.eq_zero_or_pos m with rfl|h
   ·simp at h1;omega
   ·exact h
  rw[Int.pow_succ]at h1;obtain⟨h',hx⟩:=refL_run (K:=K) (y:=y) m [.int .u8 (u%128+128)] (h+2) (u / 128) (by omega) (by omega) (by omega) hm (by simp;omega) hy;refine⟨h',bT (decide_eq_true hc) (bT rfl (bT rfl (bF rfl (bT rfl ?_))))⟩;rw[shR_eq u h0 h2,loR_eq u h0];exact hx
 ·rw[if_neg hc]at hy
  have hl:laP u= .int .u8 u:=by unfold laP;rw[wrapU8,Int.emod_eq_of_lt h0 (by omega)]
  refine⟨h,bF (decide_eq_false hc) (bT rfl (bF rfl ?_))⟩;rw[hl,hy]
abbrev zigN(n:Int):Int:=IntKind.u64.wrap (IntKind.u64.wrap (IntKind.u64.wrap (IntKind.i64.wrap (0-IntKind.i64.wrap (n+1)))*2)+1)
abbrev zigR(n:Int):Int:=IntKind.u64.wrap (IntKind.u64.wrap n*2)
theorem wrapI64(n:Int)(h0: -9223372036854775808≤n)(h1:n<9223372036854775808):IntKind.i64.wrap n=n:=by
 show(if(true&&decide (n%18446744073709551616≥9223372036854775808))=true then _ else _)=n;simp only[Bool.true_and,decide_eq_true_eq]
 split<;>(simp only[show((2:Int) ^ IntKind.i64.bits)=18446744073709551616 from rfl];omega)
theorem zigN_eq{n:Int}(h0: -9223372036854775808≤n)(h:n<0):zigN n=zig n:=by
 unfold zigN zig;rw[if_pos h,wrapI64 (n+1) (by omega) (by omega),wrapI64 _ (by omega) (by omega),wrapU64,wrapU64,wrapU64];omega
theorem zigR_eq{n:Int}(h:0≤n)(h1:n<9223372036854775808):zigR n=zig n:=by
 unfold zigR zig;rw[if_neg (by omega),wrapU64,wrapU64];omega
noncomputable def putR(K:AV→Nat→T AV)(bs:List AV)(n:Int)(m:Nat):T AV:=
 .br (room 0 bs.length bs) (.br bs.isEmpty (.br (decide (n<0)) (refN K m 0 (zigN n)) (refN K m 0 (zigR n))) (.br (decide (n<0)) (refL K m bs 1 (zigN n)) (refL K m bs 1 (zigR n)))) .fail
theorem vb_more: ∀(m:Nat) (u:Int),0≤u→u<128 ^ m→0<m→vb (m+1) u=vb m u
 |0,u,_,_,h=>by omega
 |m+1,u,h0,h1,_=>by
  show(if 128≤u then AV.int .u8 (u%128+128)::vb (m+1) (u / 128)else [.int .u8 u])=(if 128≤u then AV.int .u8 (u%128+128)::vb m (u / 128)else [.int .u8 u])
  by_cases hc:128≤u
  ·rw[if_pos hc,if_pos hc]
   have hm:0<m:=by
    rcases Nat.eq_zero_or_pos m with rfl|h
    ·simp at h1;omega
    ·exact h
   rw[Int.pow_succ]at h1;rw[vb_more m _ (by omega) (by omega) hm]
  ·rw[if_neg hc,if_neg hc]
theorem putR_run{K:AV→Nat→T AV}{bs:List AV}{n:Int}(hb:IsB bs)(hl:bs.length≤190000000000000)(h0: -9223372036854775808≤n)(h1:n<9223372036854775808): ∃h,(putR K bs n 12).run=(K (.lst 1 (bs++numB n) (.own (h+1))) (h+2)).run:=by
 obtain⟨z0,z1⟩:=zig_range h0 h1
 have e:vb 12 (zig n)=numB n:=by
  have h70:(18446744073709551616:Int)<128 ^ 10:=by decide
  have h77:(18446744073709551616:Int)<128 ^ 11:=by decide
  rw[vb_more 11 _ z0 (by omega) (by decide),vb_more 10 _ z0 (by omega) (by decide)];rfl
 have hp:zig n<128 ^ 12:=by
  have:(18446744073709551616:Int)<128 ^ 12:=by decide
  omega
 unfold putR
 cases hbs:bs with
 |nil=>
  subst hbs;obtain⟨h',hR⟩:=refN_run (K:=K) (y:= []++numB n) 12 0 _ z0 hp z1 (by decide) (by decide) (by rw[e];rfl);refine⟨h',bT (room_ok (by omega) hb) (bT rfl ?_)⟩
  by_cases h:n<0
  ·refine bT (decide_eq_true h) ?_
   rw[zigN_eq h0 h];exact hR
  ·refine bF (decide_eq_false h) ?_
   rw[zigR_eq (by omega) h1];exact hR
 |cons b l=>
  rw[←hbs];obtain⟨h',hR⟩:=refL_run (K:=K) (y:=bs++numB n) 12 bs 1 _ z0 hp z1 (by decide) (by omega) (by rw[e]);refine⟨h',bT (room_ok (by omega) hb) (bF (by rw[hbs];rfl) ?_)⟩
  by_cases h:n<0
  ·refine bT (decide_eq_true h) ?_
   rw[zigN_eq h0 h];exact hR
  ·refine bF (decide_eq_false h) ?_
   rw[zigR_eq (by omega) h1];exact hR
section
variable {α:Type} [DecidableEq α]
def adds(l:List α)(x:α):List α:=if x∈l then l else l++ [x]
def uniq(L:List α)(j:Nat):List α:=(L.take j).foldl adds []
theorem uniq_zero(L:List α):uniq L 0= []:=by simp[uniq]
theorem uniq_next(L:List α)(j:Nat)(z:α)(h:j<L.length):uniq L (j+1)=adds (uniq L j) (L.getD j z):=by
 unfold uniq;rw[List.take_add_one,List.foldl_append,List.getD_eq_getElem?_getD,List.getElem?_eq_getElem h];rfl
theorem mem_adds{l:List α}{x y:α}:y∈adds l x↔y∈l∨y=x:=by
 unfold adds;split
 ·rename_i h
  exact⟨.inl,fun hy=>hy.elim id (fun e=>e▸h)⟩
 ·simp
theorem mem_uniq(L:List α)(z:α): ∀(j:Nat),j≤L.length→ ∀x,x∈uniq L j↔ ∃k,k<j∧L.getD k z=x
 |0,_,x=>by rw[uniq_zero];simp
 |j+1,hj,x=>by
  rw[uniq_next L j z (by omega),mem_adds,mem_uniq L z j (by omega) x];constructor
  ·rintro(⟨k,h1,h2⟩|h)
   ·exact⟨k,by omega,h2⟩
   ·exact⟨j,by omega,h.symm⟩
  ·rintro⟨k,h1,h2⟩
   rcases Nat.lt_succ_iff_lt_or_eq.1 h1 with h|h
   ·exact .inl ⟨k,h,h2⟩
   ·exact .inr (by rw[←h2,h])
theorem uniq_len(L:List α)(z:α): ∀(j:Nat),j≤L.length→(uniq L j).length≤j∧((uniq L j).length<j↔ ∃i,i<j∧ ∃k,k<i∧L.getD k z=L.getD i z)
 |0,_=>by rw[uniq_zero];simp
 |j+1,hj=>by
  obtain⟨h1,h2⟩:=uniq_len L z j (by omega)
  have hm:=mem_uniq L z j (by omega) (L.getD j z)
  rw[uniq_next L j z (by omega)];unfold adds;split
  ·rename_i h
   refine⟨by omega,fun _=>⟨j,by omega,hm.1 h⟩,fun _=>by omega⟩
  ·rename_i h
   rw[List.length_append,List.length_singleton];refine⟨by omega,fun hl=>?_,?_⟩
   ·obtain⟨i,a,b⟩:=h2.1 (by omega)
    exact⟨i,by omega,b⟩
   ·rintro⟨i,hi,hk⟩
    rcases Nat.lt_succ_iff_lt_or_eq.1 hi with a|a
    ·have:=h2.2 ⟨i,a,hk⟩;omega
    ·subst a
     exact absurd (hm.2 hk) h
end
def setBy{α:Type}(K:α→AV)(l:List α):List (AV×AV):=l.map fun x=>(K x,AV.bool true)
section
variable {P:Program} {S:TypeId→Bool} {kt:TypeId} {α:Type} [DecidableEq α] {K:α→AV}
theorem findBy_in(he: ∀a b,eqT P S 99 kt (K a) (K b)=some (decide (a=b)))(s:α): ∀l:List α,s∈l→ ∃i,find (eqT P S 99 kt) (K s) (setBy K l)=some (some (i, .bool true))∧i<l.length∧l[i]?=some s
 | [],h=>by cases h
 |a::l,h=>by
  show∃i,find (eqT P S 99 kt) (K s) ((K a,AV.bool true)::setBy K l)=some (some (i, .bool true))∧_;simp only[find,he]
  by_cases e:s=a
  ·rw[decide_eq_true e]
   exact⟨0,rfl,by simp,by simp[e]⟩
  ·rw[decide_eq_false e]
   obtain⟨i,h1,h2,h3⟩:=findBy_in he s l (by rcases List.mem_cons.1 h with h|h; · exact absurd h e
                                            ·exact h)
   exact⟨i+1,by rw[h1];rfl,by simp;omega,by simpa using h3⟩
theorem findBy_out(he: ∀a b,eqT P S 99 kt (K a) (K b)=some (decide (a=b)))(s:α): ∀l:List α,s∉l→find (eqT P S 99 kt) (K s) (setBy K l)=some none
 | [],_=>rfl
 |a::l,h=>by
  show find (eqT P S 99 kt) (K s) ((K a,AV.bool true)::setBy K l)=some none;simp only[find,he];rw[decide_eq_false fun e=>h (by rw[e];exact List.mem_cons_self ..),findBy_out he s l (fun hm=>h (List.mem_cons_of_mem _ hm))];rfl
theorem setBy_put(he: ∀a b,eqT P S 99 kt (K a) (K b)=some (decide (a=b)))(hp: ∀a,plainEq (K a) (K a)=true)(s:α)(l:List α):
  putOk P S kt (K s) (setBy K l)=true∧putM P S kt (K s) (.bool true) (setBy K l)=setBy K (adds l s):=by
 unfold putOk putM adds
 by_cases h:s∈l
 ·obtain⟨i,h1,h2,h3⟩:=findBy_in he s l h
  rw[h1,if_pos h]
  have hg:(setBy K l)[i]?=some (K s, .bool true):=by simp[setBy,h3]
  refine⟨?_,?_⟩
  ·show(match(setBy K l)[i]? with|some e=>plainEq (K s) e.1|none=>false)=true
   rw[hg];exact hp s
  ·show(setBy K l).set i (K s, .bool true)=setBy K l
   refine List.ext_getElem? fun j=>?_
   rw[List.getElem?_set];split
   ·rename_i e
    subst e;rw[if_pos (by simpa [setBy]using h2),hg]
   ·rfl
 ·rw[findBy_out he s l h,if_neg h]
  exact⟨rfl,by simp[setBy]⟩
end
end Go.Proofs.YthnajefdiljneaaDoor.AM
namespace Go.Proofs.YthnajefdiljneaaDoor.AM
set_option linter.unusedVariables false
set_option linter.unusedSimpArgs false
set_option linter.unusedSectionVars false
end Go.Proofs.YthnajefdiljneaaDoor.AM
namespace Go.Proofs.YthnajefdiljneaaDoor.AM
set_option linter.unusedVariables false
set_option linter.unusedSimpArgs false
set_option linter.unusedSectionVars false
def X.same:AM.X→AM.X→Bool
 | .normal, .normal=>true
 | .ret, .ret=>true
 | .exit i, .exit j=>i==j
 |_,_=>false
end Go.Proofs.YthnajefdiljneaaDoor.AM
namespace Go.Proofs.YthnajefdiljneaaDoor.AM
set_option linter.unusedVariables false
set_option linter.unusedSimpArgs false
set_option linter.unusedSectionVars false
structure CB where
 f:FuncId
 args:List AV
 r:AV
 h:H
end Go.Proofs.YthnajefdiljneaaDoor.AM
namespace Go.Proofs.YthnajefdiljneaaDoor.AM
set_option linter.unusedVariables false
set_option linter.unusedSimpArgs false
set_option linter.unusedSectionVars false
mutual
def frz(b sz:Nat)(l:List AV):AV→AV
 | .sl b' off len sz' c=>if b'=b∧sz'=sz∧off+len≤l.length then .lst sz ((l.drop off).take len) .open_ else .sl b' off len sz' c
 | .agg cs=> .agg (frzs b sz l cs)
 | .tup cs=> .tup (frzs b sz l cs)
 |v=>v
def frzs(b sz:Nat)(l:List AV):List AV→List AV
 | []=> []
 |v::vs=>frz b sz l v::frzs b sz l vs
end
end Go.Proofs.YthnajefdiljneaaDoor.AM
namespace Go.Proofs.YthnajefdiljneaaDoor.AM
set_option linter.unusedVariables false
set_option linter.unusedSimpArgs false
set_option linter.unusedSectionVars false
structure Placed (κ:Nat→Nat) (M Z:AM.H):Prop where
 inj: ∀i j,κ i=κ j→i=j
 old: ∀i,i<M.length→κ i<Z.length
 new: ∀i,M.length≤i→κ i=Z.length+(i-M.length)
 blk: ∀(i:Nat) x,M[i]?=some x→x≠ .hole∧Z[κ i]?=some (renB κ x)
structure Left (κ:Nat→Nat) (M Z M' Z':AM.H):Prop where
 inn: ∀(i:Nat) x,M'[i]?=some x→x≠ .hole∧Z'[κ i]?=some (renB κ x)
 out: ∀b,b<Z.length→(∀i,i<M.length→κ i≠b)→Z'[b]?=Z[b]?
 le:M.length≤M'.length
 len:Z'.length+M.length=Z.length+M'.length
end Go.Proofs.YthnajefdiljneaaDoor.AM
namespace Go.Proofs.YthnajefdiljneaaDoor.AM
set_option linter.unusedVariables false
set_option linter.unusedSimpArgs false
set_option linter.unusedSectionVars false
theorem Con.of_any{E:Env}{f:FuncId}{args:List AV}{r:AV}
  (hc: ∀(F:Area) (ρ:Rho) (w:World) (vs:Array Value),CRs F ρ w vs.toList args→(∀W,(callFunc f vs).run E.P W= .ok (.enter f vs) W)∧
   Calls E.P f vs w fun e w'=> ∃v,e= .returned v∧RowKit.Below w.heap.size w w'∧ ∀(F:Area) (ρ:Rho),(∀B off,w.heap.size≤B→ ¬F B off)→CR F ρ w' v r) (h:H):Con E f args h r h:=by
 intro A ρ w vs hw hargs;obtain⟨hen,hc⟩:=hc _ _ w vs hargs;refine⟨hen,hc.mono fun e w' ⟨v,he,hb,hr⟩=>⟨v,ρ,he,?_,?_,hr _ _ fun B off hB hF=>?_⟩⟩
 ·exact⟨fun _ _ h=>h,fun _ _ h=> .inl h,fun _ _ _ h=> .inl h,⟨hb.os,hb.tape,hb.output⟩,hb.size,fun B cs e fz hB=>by
   have hlt:B<w.heap.size:=by
    rcases Nat.lt_or_ge B w.heap.size with h|h
    ·exact h
    ·rw[Array.getElem?_eq_none h]at hB;cases hB
   exact⟨cs,fz,by rw[hb.block B hlt];exact hB,rfl,fun off _ _=>rfl⟩,fun B hB _=>hb.block B hB⟩
 ·have hk:Keeps (Forb A ρ (view h)) w (Forb A ρ (view h)) w':=fun B cs e fz hB=>by
   have hlt:B<w.heap.size:=by
    rcases Nat.lt_or_ge B w.heap.size with h|h
    ·exact h
    ·rw[Array.getElem?_eq_none h]at hB;cases hB
   exact⟨cs,fz,by rw[hb.block B hlt];exact hB,rfl,fun off _ hf=>⟨rfl,hf⟩⟩
  refine⟨hw.dom,fun b x hbx hxh=>?_,hw.hole,hw.sep,fun B off ha=>⟨Nat.lt_of_lt_of_le (hw.avo B off ha).1 hb.size,(hw.avo B off ha).2⟩,fun i cs hi=>(hw.glob i cs hi).mono (fun _ _ h=>h) hk⟩;obtain⟨B,k,k1,k2,k3⟩:=hw.blk b x hbx hxh;exact⟨B,k,k1,Nat.lt_of_lt_of_le k2 hb.size,k3.mono (fun _ _ h=>h) hk (hb.block B k2)⟩
 ·rcases hF with⟨b,k,blk,r1,r2,r3,r4⟩|hA
  ·obtain⟨B',k',h1,h2,_⟩:=hw.blk b blk r2 (fun e=>by rw[e]at r3;cases r3)
   rw[r1]at h1;cases h1;omega
  ·have:=(hw.avo B off hA).1
   omega
def IsB8(l:List AV):Prop:= ∀y,y∈l→ ∃n:Int,y=AV.int .u8 n∧0≤n∧n<256
theorem IsB8.isB{l:List AV}(h:IsB8 l):IsB l:=fun y hy=>let⟨n,e,_⟩:=h y hy;⟨n,e⟩
theorem IsB8.nil:IsB8 []:=fun y h=>by cases h
theorem IsB8.append{l m:List AV}(a:IsB8 l)(b:IsB8 m):IsB8 (l++m):=fun y h=>(List.mem_append.1 h).elim (a y) (b y)
theorem IsB8.one{n:Int}(h0:0≤n)(h1:n<256):IsB8 [.int .u8 n]:=fun y h=>⟨n,List.mem_singleton.1 h,h0,h1⟩
theorem vb_isB8: ∀m (u:Int),0≤u→u<128 ^ m→IsB8 (vb m u)
 |0,u,_,_=>by simp only[vb];exact .nil
 |m+1,u,h0,h1=>by
  rw[Int.pow_succ]at h1;simp only[vb];split
  ·intro y hy
   rcases List.mem_cons.1 hy with rfl|hy
   ·exact⟨_,rfl,by omega,by omega⟩
   ·exact vb_isB8 m (u / 128) (by omega) (by omega) y hy
  ·exact .one (by omega) (by omega)
theorem numB_isB8{n:Int}(h0: -9223372036854775808≤n)(h1:n<9223372036854775808):IsB8 (numB n):=by
 have:=zig_range h0 h1;exact vb_isB8 10 _ this.1 (Int.lt_trans this.2 (by decide))
theorem ofBytes_isB8(s:ByteArray):IsB8 (ofBytes s):=fun y h=>by
 obtain⟨c,_,rfl⟩:=List.mem_map.1 h;have:=c.toNat_lt;exact⟨_,rfl,by omega,by omega⟩
def toN(l:List AV):List Int:=l.map AV.toI
theorem toN_back{l:List AV}(h:IsB8 l):(toN l).map (AV.int .u8)=l:=by
 induction l with
 |nil=>rfl
 |cons y l ih=>
  obtain⟨n,rfl,_⟩:=h y List.mem_cons_self
  simp only[toN,List.map_cons,AV.toI]at ih ⊢
  rw[ih fun z hz=>h z (List.mem_cons_of_mem _ hz)]
theorem toN_byte{l:List AV}(h:IsB8 l): ∀x∈toN l,0≤x∧x<256:=fun x hx=>by
 obtain⟨y,hy,rfl⟩:=List.mem_map.1 hx;obtain⟨n,rfl,h0,h1⟩:=h y hy;exact⟨h0,h1⟩
theorem toN_append(l m:List AV):toN (l++m)=toN l++toN m:=List.map_append
theorem toN_len(l:List AV):(toN l).length=l.length:=List.length_map ..
theorem ndT{p:Prop} [Decidable p](h: ¬p):(!decide p)=true:=by simp[h]
theorem ndF{p:Prop} [Decidable p](h:p):(!decide p)=false:=by simp[h]
end Go.Proofs.YthnajefdiljneaaDoor.AM
namespace Go.Proofs.YthnajefdiljneaaDoor.AM
set_option linter.unusedVariables false
set_option linter.unusedSimpArgs false
set_option linter.unusedSectionVars false
def kapP(ks:List Nat)(n:Nat)(b:Nat):Nat:=match ks[b]? with
 |some k=>k
 |none=>n+(b-ks.length)
def BlkOK(κ:Nat→Nat)(h1:H):List Nat→H→Prop
 | [],[]=>True
 |k::ks,x::xs=>(x≠ .hole∧ ∃y,h1[k]?=some y∧LeB y (renB κ x))∧BlkOK κ h1 ks xs
 |_,_=>False
def SlOK(κ:Nat→Nat)(τ:Fr):List (Nat×AV)→Prop
 | []=>True
 |p::ps=>(Le (τ p.1) (ren κ p.2)∧isFsl (τ p.1)=false)∧SlOK κ τ ps
theorem BlkOK.len{κ:Nat→Nat}{h1:H}: ∀{ks:List Nat} {h2:H},BlkOK κ h1 ks h2→ks.length=h2.length
 | [],[],_=>rfl
 |_::ks,_::xs,h=>by simp only[List.length_cons,BlkOK.len h.2]
 | [],_::_,h=>h.elim
 |_::_,[],h=>h.elim
theorem BlkOK.at_{κ:Nat→Nat}{h1:H}: ∀{ks:List Nat} {h2:H},BlkOK κ h1 ks h2→ ∀(i:Nat) x,h2[i]?=some x→x≠ .hole∧ ∃k y,ks[i]?=some k∧h1[k]?=some y∧LeB y (renB κ x)
 | [],[],_,i,x,hx=>by simp at hx
 |k::ks,z::xs,h,0,x,hx=>by
  simp at hx;subst hx;obtain⟨h1,y,h2,h3⟩:=h.1;exact⟨h1,k,y,rfl,h2,h3⟩
 |k::ks,z::xs,h,i+1,x,hx=>by
  obtain⟨h1,k',y,h2,h3,h4⟩:=BlkOK.at_ h.2 i x (by simpa using hx);exact⟨h1,k',y,by simpa using h2,h3,h4⟩
 | [],_::_,h,_,_,_=>h.elim
 |_::_,[],h,_,_,_=>h.elim
theorem SlOK.mem{κ:Nat→Nat}{τ:Fr}: ∀{sl:List (Nat×AV)},SlOK κ τ sl→ ∀p,p∈sl→Le (τ p.1) (ren κ p.2)∧isFsl (τ p.1)=false
 | [],_,p,hp=>by simp at hp
 |q::sl,h,p,hp=>by
  rcases List.mem_cons.1 hp with rfl|hp
  ·exact h.1
  ·exact SlOK.mem h.2 p hp
theorem look_mem: ∀(l:List (Nat×AV)) (i:Nat),look l i=top∨ ∃p,p∈l∧look l i=p.2∧p.1=i
 | [],i=> .inl rfl
 |(j,v)::l,i=>by
  simp only[look];split
  ·rename_i h;exact .inr ⟨(j,v),List.mem_cons_self ..,rfl,(Nat.eq_of_beq_eq_true h).symm⟩
  ·rcases look_mem l i with h|⟨p,h1,h2⟩
   ·exact .inl h
   ·exact .inr ⟨p,List.mem_cons_of_mem _ h1,h2⟩
theorem nodup_get: ∀{l:List Nat},l.Nodup→ ∀{i j k:Nat},l[i]?=some k→l[j]?=some k→i=j
 | [],_,i,j,k,hi,_=>by simp at hi
 |a::l,h,i,j,k,hi,hj=>by
  obtain⟨h1,h2⟩:=List.nodup_cons.1 h
  match i,j with
  |0,0=>rfl
  |0,j+1=>
   simp at hi hj;subst hi;exact absurd (List.mem_of_getElem? hj) h1
  |i+1,0=>
   simp at hi hj;subst hj;exact absurd (List.mem_of_getElem? hi) h1
  |i+1,j+1=>
   simp at hi hj;rw[nodup_get h2 hi hj]
theorem Wk.pick{E:Env}{N:Nat}{h0:H}(hG: ∀i cs,E.G i=some cs→noRefs cs=true){τ:Fr}{h1 h2:H}{sl:List (Nat×AV)}(ks:List Nat)(hold:ks.take h0.length=List.range h0.length)
  (hnd:ks.Nodup) (hb:BlkOK (kapP ks h1.length) h1 ks h2) (hs:SlOK (kapP ks h1.length) τ sl):Wk E N h0 τ h1 (AM.frm sl) h2:=by
 have hlen:=hb.len
 have ho: ∀b,b<h0.length→ks[b]?=some b:=fun b hb=>by
  have h:(ks.take h0.length)[b]?=some b:=by rw[hold,List.getElem?_range hb]
  rw[List.getElem?_take,if_pos hb]at h;exact h
 have kin: ∀b k,ks[b]?=some k→kapP ks h1.length b=k:=fun b k hk=>by unfold kapP;rw[hk]
 have kout: ∀b,ks.length≤b→kapP ks h1.length b=h1.length+(b-ks.length):=fun b hb=>by unfold kapP;rw[List.getElem?_eq_none hb]
 have hn0:h0.length≤ks.length:=by
  have:=congrArg List.length hold;rw[List.length_take,List.length_range]at this;omega
 have hlt: ∀b k,ks[b]?=some k→k<h1.length:=fun b k hk=>by
  have hb2:b<h2.length:=by rw[←hlen];exact lt_of_getl hk
  obtain⟨_,k',y,q1,q2,_⟩:=hb.at_ b _ (List.getElem?_eq_getElem hb2);rw[hk]at q1;cases q1;exact lt_of_getl q2
 refine Wk.ren hG (κ:=kapP ks h1.length) ⟨fun b hb=>kin b b (ho b hb),fun b hb=>?_,fun b hb=>?_,fun i x hx=>?_,fun i j x y hx hy _ _ hij=>?_,fun i=>?_⟩
 ·cases hk:ks[b]? with
  |some k=>
   rw[kin b k hk]
   rcases Nat.lt_or_ge k h0.length with h|h
   ·have:=nodup_get hnd hk (ho k h);omega
   ·exact h
  |none=>
   have hbl:ks.length≤b:=by simpa using hk
   rw[kout b hbl]
   rcases Nat.eq_zero_or_pos h0.length with h|h
   ·omega
   ·have:=hlt _ _ (ho (h0.length-1) (by omega));omega
 ·rw[kout b (by omega)];omega
 ·obtain⟨q0,k,y,q1,q2,q3⟩:=hb.at_ i x hx
  exact⟨q0,y,by rw[kin i k q1];exact q2,q3⟩
 ·obtain⟨_,k,_,q1,_⟩:=hb.at_ i x hx
  obtain⟨_,k',_,r1,_⟩:=hb.at_ j y hy;rw[kin i k q1,kin j k' r1]at hij;subst hij;exact nodup_get hnd q1 r1
 ·rcases look_mem sl i with h|⟨p,h3,h4,h5⟩
  ·exact .inl h
  ·refine .inr ?_
   obtain⟨q1,q2⟩:=hs.mem p h3;rw[h5]at q1 q2;show Le (τ i) (AM.ren _ (look sl i))∧ ∀sz l,τ i≠ .fsl sz l;rw[h4];exact⟨q1,fun sz l e=>by rw[e]at q2;cases q2⟩
theorem Tri.way{X:SX}(g:Ground X.E)(hG: ∀i cs,X.E.G i=some cs→noRefs cs=true)(hcall:CallOK X.E X.calls){K:Known}{N:Nat}{h0:H}{body:Code}(hK:KOK X.E N h0 body K){c:Code}{p:List Nat}(hp:sub body p=c){τ:Fr}{h:H}{L:List Nat}{x:AM.X}{vs:List AV}{h1:H}
  (hr:(obsK X K N c p τ h L).run= .ok (x,vs,h1)) {sl:List (Nat×AV)} {h2:H} (ks:List Nat) (hold:ks.take h0.length=List.range h0.length) (hnd:ks.Nodup) (hb:BlkOK (kapP ks h1.length) h1 ks h2) (hs:SlOK (kapP ks h1.length) (AM.frm (L.zip vs)) sl):Tri X.E N h0 c τ h x (AM.frm sl) h2:=
 .wk .refl (Tri.of_obs g hcall hK hp hr) (Wk.pick hG ks hold hnd hb hs)
theorem leN{κ:Nat→Nat}{v:AV}(h:noRef v=true):Le v (ren κ v):=by rw[ren_noRef _ _ h];exact Le.refl _
theorem leL{κ:Nat→Nat}{sz t t':Nat}{l:List AV}(h:noRefs l=true)(ht:κ t'=t):Le (.lst sz l (.own t)) (ren κ (.lst sz l (.own t'))):=by
 show Le _ (.lst sz (rens κ l) (.own (κ t')));rw[rens_noRef _ _ h,ht];exact Le.refl _
theorem map_noRef{κ:Nat→Nat}{es:List (AV×AV)}(h: ∀e,e∈es→noRef e.1=true∧noRef e.2=true):renB κ (.map es)= .map es:=by
 simp only[renB]
 congr 1
 have: ∀es:List (AV×AV),(∀e,e∈es→noRef e.1=true∧noRef e.2=true)→es.map (renP κ)=es:=by
  intro es
  induction es with
  |nil=>intro _;rfl
  |cons e es ih=>
   intro h
   have h1:=h e List.mem_cons_self
   rw[List.map_cons,ih fun x hx=>h x (List.mem_cons_of_mem _ hx)];unfold renP;rw[ren_noRef _ _ h1.1,ren_noRef _ _ h1.2]
 exact this es h
theorem leM{κ:Nat→Nat}{es:List (AV×AV)}(h: ∀e,e∈es→noRef e.1=true∧noRef e.2=true):LeB (.map es) (renB κ (.map es)):=by rw[map_noRef h];exact LeB.refl _
end Go.Proofs.YthnajefdiljneaaDoor.AM
end
