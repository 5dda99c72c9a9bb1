-- SQUEEZED
/- The symbolic machine: the abstract machine's code run on trees whose leaves are terms; where an answer hangs on a term, both ways are gone. Definitions. -/
import Derived.Test.YtcocmlmligjjcaaGreatDoorA25
namespace Go.Proofs.YtcocmlmligjjcaaGreatDoor.AM
set_option linter.unusedVariables false
set_option linter.unusedSimpArgs false
set_option linter.unusedSectionVars false
inductive T (α:Type) where
 |leaf (a:α)
 |fail
 |br (c:Bool) (t e:T α)
def T.bind{α β:Type}:T α→(α→T β)→T β
 | .leaf a,f=>f a
 | .fail,_=> .fail
 | .br c t e,f=> .br c (t.bind f) (e.bind f)
def T.run{α:Type}:T α→R α
 | .leaf a=> .ok a
 | .fail=> .no ""
 | .br c t e=>match c with
   |true=>t.run
   |false=>e.run
def R.t{α:Type}:R α→T α
 | .ok a=> .leaf a
 | .no _=> .fail
def mark(d:Nat)(c:Bool):Bool:=c
def chk{α:Type}(con:Option Nat)(c:Bool)(t:T α):T α:=match con with
 |none=>(match c with|true=>t|false=> .fail)
 |some d=> .br (mark d c) t .fail
def byteAt(s:ByteArray)(i:Nat):UInt8:=s.data.toList.getD i 0
def brc{α:Type}(con:Option Nat)(c:Bool)(t e:T α):T α:=match con with
 |none=>(match c with|true=>t|false=>e)
 |some d=> .br (mark d c) t e
structure SX where
 E:Env
 f:FuncId
 con:Nat→Bool
 split:Nat→Bool
 call:FuncId→List AV→H→T (AV×H)
 lit:FuncId→Bool:=fun _=>false
noncomputable def askL(E:Env)(g:FuncId)(vs:List AV)(v:AV):Bool:=by
 classical exact decide (E.C g vs=some v∧noF v=true)
def conOf(X:SX)(o:Oper):Option Nat:=match o.dst with
 |some d=>(match X.con d with|true=>none|false=>some d)
 |none=>some 0
def AV.toI:AV→Int
 | .int _ n=>n
 |_=>0
def AV.toS:AV→ByteArray
 | .str s=>s
 |_=> .empty
def AV.toB:AV→Bool
 | .bool b=>b
 |_=>false
def AV.toL:AV→List AV
 | .lst _ l _=>l
 |_=> []
def cellTs(P:Program):Nat→TypeId→List TypeId
 |0,_=> []
 |d+1,t=>match P.underlying t with
  |some (.struct fs)=>fs.toList.foldr (fun f acc=>cellTs P d f.type++acc) []
  |some (.array n e)=>(List.replicate n (cellTs P d e)).flatten
  |_=> [t]
def shape1(P:Program)(t:TypeId)(v:AV):AV:=match P.underlying t with
 |some (.int k)=> .int k v.toI
 |some .string=> .str v.toS
 |some .bool=> .bool v.toB
 |some (.slice e)=> .lst (P.cellsOf e) v.toL .open_
 |_=>v
def fits1(P:Program)(t:TypeId)(v:AV):Bool:=match P.underlying t with
 |some (.int k)=>(match v with| .int k' _=>k==k'|_=>false)
 |some .string=>(match v with| .str _=>true|_=>false)
 |some .bool=>(match v with| .bool _=>true|_=>false)
 |some (.slice e)=>(match v with| .lst sz _ .open_=>sz==P.cellsOf e|_=>false)
 |_=>true
def shapes(P:Program)(cs:List AV):Nat→List TypeId→List AV
 |_,[]=> []
 |k,t::ts=>shape1 P t (cs.getD k undef)::shapes P cs (k+1) ts
def fitss(P:Program)(cs:List AV):Nat→List TypeId→Bool
 |_,[]=>true
 |k,t::ts=>fits1 P t (cs.getD k undef)&&fitss P cs (k+1) ts
def shapeC(P:Program)(t:TypeId)(v:AV):List AV:=shapes P v.cells 0 (cellTs P 99 t)
def fitsC(P:Program)(t:TypeId)(v:AV):Bool:=v.cells.length==(cellTs P 99 t).length&&fitss P v.cells 0 (cellTs P 99 t)
def boundT(con:Option Nat):Option AV→Nat→T Nat
 |none,d=> .leaf d
 |some v,_=>(intA v).t.bind fun n=>chk con (decide (0≤n)) (.leaf n.toNat)
def cutT(con:Option Nat)(x:AV)(l h n:Nat)(cut:Bool):T AV:=
 match x with
 | .nils=> .leaf .nils
 | .lst sz xs tl=>(match cut,tl with
   |true,_=> .leaf (.lst sz ((xs.drop l).take (h-l)) .clip)
   |false, .open_=> .leaf (.lst sz ((xs.drop l).take (h-l)) .open_)
   |false,tl=>brc con (decide (h=n)) (.leaf (.lst sz ((xs.drop l).take (h-l)) tl)) (.leaf (.lst sz ((xs.drop l).take (h-l)) .open_)))
 |_=>(cutA x l h n cut).t
def sliceT(P:Program)(con:Option Nat)(t:TypeId)(x:AV)(lo hi mx:Option AV):T AV:=
 (under P t).t.bind fun
 | .string=>match x with
   | .str s=>(boundT con lo 0).bind fun l=>(boundT con hi s.size).bind fun h=>match mx with
     |none=>chk con (decide (l≤h)&&decide (h≤s.size)) (.leaf (.str (s.extract l h)))
     |some _=> .fail
   |_=> .fail
 | .slice e=>(size P e).t.bind fun sz=>(lenA x).t.bind fun n=>(boundT con lo 0).bind fun l=>(boundT con hi n).bind fun h=>(match mx with
   |none=>T.leaf h
   |some _=>boundT con mx h).bind fun m=>match mx,hi with
   |some _,none=> .fail
   |_,_=>match szA x sz with
    |true=>chk con (decide (l≤h)&&decide (h≤n)&&decide (m=h)) (cutT con x l h n mx.isSome)
    |false=> .fail
 |_=>(sliceA P t x lo hi mx).t
def indexT(P:Program)(con:Option Nat)(t:TypeId)(x:AV)(i:Int):T AV:=
 match con with
 |none=>(indexA P t x i).t
 |some q=>(under P t).t.bind fun
  | .slice e=>(size P e).t.bind fun s=>match szA x s with
    |true=>(match x with
     | .lst _ l _=> .br (mark q<|decide (0≤i)&&decide (i<l.length)&&fitsC P e (l.getD i.toNat undef)) (.leaf (.fp (shapeC P e (l.getD i.toNat undef)) 0)) .fail
     | .sl b off n sz _=> .br (mark q<|decide (0≤i)&&decide (i<n)) (.leaf (.eptr b (off+i.toNat) sz 0)) .fail
     | .vsl b off n _=> .br (mark q<|decide (0≤i)&&decide (i<n)) (.leaf (.ptr b (off+i.toNat))) .fail
     |_=> .fail)
    |false=> .fail
  | .array n e=>(size P e).t.bind fun s=>match x with
    | .ptr b off=> .br (mark q<|decide (0≤i)&&decide (i<n)) (.leaf (.ptr b (off+i.toNat*s))) .fail
    | .eptr b j sz off=> .br (mark q<|decide (0≤i)&&decide (i<n)) (.leaf (.eptr b j sz (off+i.toNat*s))) .fail
    |_=> .fail
  |_=> .fail
def binT(P:Program)(S:TypeId→Bool)(con:Option Nat)(op:BinOp)(t:TypeId)(x y:AV):T AV:=
 match x,y with
 | .int k a, .int k' b=>(match decide (k=k')with
   |true=>(match op with
    | .add=> .leaf (.int k (k.wrap (a+b)))
    | .sub=> .leaf (.int k (k.wrap (a-b)))
    | .mul=> .leaf (.int k (k.wrap (a*b)))
    | .quo=>chk con (!decide (b=0)) (.leaf (.int k (k.wrap (a.tdiv b))))
    | .rem=>chk con (!decide (b=0)) (.leaf (.int k (a.tmod b)))
    | .eql=> .leaf (.bool (decide (a=b)))
    | .neq=> .leaf (.bool (!decide (a=b)))
    | .lss=> .leaf (.bool (decide (a<b)))
    | .leq=> .leaf (.bool (decide (a≤b)))
    | .gtr=> .leaf (.bool (decide (b<a)))
    | .geq=> .leaf (.bool (decide (b≤a)))
    |_=>(binA P S op t x y).t)
   |false=>(binA P S op t x y).t)
 | .str a, .str b=>(match op with
   | .add=>chk con (decide (a.size+b.size≤9223372036854775807)) (.leaf (.str (a++b)))
   | .eql=> .leaf (.bool (decide (a=b)))
   | .neq=> .leaf (.bool (!decide (a=b)))
   | .lss=> .leaf (.bool (Op.bytesLess a.toList b.toList))
   |_=>(binA P S op t x y).t)
 |_,_=>(binA P S op t x y).t
def pureT(X:SX)(τ:Fr)(o:Oper):T AV:=
 let E:=X.E
 let con:=conOf X o
 match o.op with
 | .binOp op t x y _=>(ev E τ x).t.bind fun a=>(ev E τ y).t.bind fun b=>binT E.P E.S con op t a b
 | .unOp op _ x=>(ev E τ x).t.bind fun a=>match op,a with
   | .not, .bool b=> .leaf (.bool (!b))
   | .neg, .int k n=> .leaf (.int k (k.wrap (0-n)))
   |_,_=>(pureA E τ o).t
 | .slice t x lo hi mx=>(ev E τ x).t.bind fun a=>(evo E τ lo).t.bind fun lo=>(evo E τ hi).t.bind fun hi=>(evo E τ mx).t.bind fun mx=>sliceT E.P con t a lo hi mx
 | .indexAddr t x ix=>(ev E τ x).t.bind fun x=>(ev E τ ix).t.bind fun i=>(intA i).t.bind fun i=>indexT E.P con t x i
 | .index t x ix=>(match con with
   |none=>(pureA E τ o).t
   |some q=>(ev E τ x).t.bind fun x=>(ev E τ ix).t.bind fun i=>match x,i with
    | .str s, .int k n=>(under E.P t).t.bind fun
      | .string=> .br (mark q<|decide (0≤n)&&decide (n<s.size)) (.leaf (.int .u8 (byteAt s n.toNat).toNat)) .fail
      |_=> .fail
    |_,_=> .fail)
 |_=>(pureA E τ o).t
def isBytes(l:List AV):Bool:=l.all fun v=>match v with
 | .int .u8 _=>true
 |_=>false
def bytesOf(l:List AV):ByteArray:=⟨(l.map fun v=>UInt8.ofNat v.toI.toNat).toArray⟩
def aggB(P:Program)(t:TypeId):Bool:=match aggT P t with
 | .ok b=>b
 | .no _=>true
def findV(P:Program)(S:TypeId→Bool)(kt:TypeId)(k:AV)(es:List (AV×AV)):AV:=match find (eqT P S 99 kt) k es with
 |some (some (_,v))=>v
 |_=>undef
def findB(P:Program)(S:TypeId→Bool)(kt:TypeId)(k:AV)(es:List (AV×AV)):Bool:=match find (eqT P S 99 kt) k es with
 |some (some _)=>true
 |_=>false
def findS(P:Program)(S:TypeId→Bool)(kt:TypeId)(k:AV)(es:List (AV×AV)):Bool:=(find (eqT P S 99 kt) k es).isSome
def putM(P:Program)(S:TypeId→Bool)(kt:TypeId)(k v:AV)(es:List (AV×AV)):List (AV×AV):=match find (eqT P S 99 kt) k es with
 |some (some (i,_))=>es.set i (k,v)
 |_=>es++ [(k,v)]
def putOk(P:Program)(S:TypeId→Bool)(kt:TypeId)(k:AV)(es:List (AV×AV)):Bool:=match find (eqT P S 99 kt) k es with
 |some (some (i,_))=>(match es[i]? with|some e=>plainEq k e.1|none=>false)
 |some none=>true
 |none=>false
def readT(X:SX)(τ:Fr)(h:H)(o:Oper):T AV:=
 let E:=X.E
 let con:=conOf X o
 match con with
 |none=>(readA E τ h o).t
 |some q=>match o.op with
  | .load t a=>(ev E τ a).t.bind fun p=>(match p with
    | .eptr b i sz off=>(match h[b]? with
      |some (.arr sz' l)=>(match decide (sz=sz')with
       |true=>(aggT E.P t).t.bind fun
        |false=> .br (mark q<|decide (i<l.length)&&decide (off<(l.getD i undef).cells.length)&&fits1 E.P t ((l.getD i undef).cells.getD off undef)) (.leaf (shape1 E.P t ((l.getD i undef).cells.getD off undef))) .fail
        |true=>(size E.P t).t.bind fun s=>(match decide ((cellTs E.P 99 t).length=s)with
         |true=> .br (mark q<|decide (i<l.length)&&decide (off+s≤(l.getD i undef).cells.length)&&fitss E.P (l.getD i undef).cells off (cellTs E.P 99 t)) (.leaf (.agg (shapes E.P (l.getD i undef).cells off (cellTs E.P 99 t)))) .fail
         |false=> .fail)
       |false=> .fail)
      |_=> .fail)
    |_=>(readA E τ h o).t)
  | .convert src dst x=>(ev E τ x).t.bind fun a=>(under E.P src).t.bind fun us=>(under E.P dst).t.bind fun ud=>match us,ud with
    | .slice e, .string=>(under E.P e).t.bind fun
      | .int .u8=>(size E.P e).t.bind fun s=>(match szA a s&&s==1 with
        |true=>(elemsA h a).t.bind fun l=> .br (mark q<|isBytes l) (.leaf (.str (bytesOf l))) .fail
        |false=> .fail)
      |_=> .fail
    |_,_=> .fail
  | .lookup t m k ok=>(ev E τ m).t.bind fun m=>(ev E τ k).t.bind fun k=>(under E.P t).t.bind fun
    | .map kt e=>(mapOf h m).t.bind fun es=>(zero E.P e).t.bind fun z=>(match keyA E.P 99 kt k with
      |true=>(match ok with
       |true=>brc (some q) (findB E.P E.S kt k es) (chk (some q) (findS E.P E.S kt k es&&(!aggB E.P e&&fits1 E.P e (findV E.P E.S kt k es))) (.leaf (.tup [shape1 E.P e (findV E.P E.S kt k es), .bool true]))) (chk (some q) (findS E.P E.S kt k es) (.leaf (.tup [z, .bool false])))
       |false=>brc (some q) (findB E.P E.S kt k es) (chk (some q) (findS E.P E.S kt k es&&(!aggB E.P e&&fits1 E.P e (findV E.P E.S kt k es))) (.leaf (shape1 E.P e (findV E.P E.S kt k es)))) (chk (some q) (findS E.P E.S kt k es) (.leaf z)))
      |false=> .fail)
    |_=> .fail
  |_=>(readA E τ h o).t
def elemsT(con:Option Nat)(h:H)(x:AV):T (List AV):=match con,x with
 |some q, .sl b off len sz _=>(match h[b]? with
  |some (.arr sz' l)=>(match decide (sz=sz')with
   |true=> .br (mark q<|decide (off+len≤l.length)) (.leaf ((l.drop off).take len)) .fail
   |false=> .fail)
  |_=> .fail)
 |_,x=>(elemsA h x).t
def newsT(P:Program)(con:Option Nat)(sz:Nat)(xt:TypeId)(x:AV)(h:H):T (List AV):=
 (under P xt).t.bind fun
 | .slice _=>(match szA x sz with
   |true=>elemsT con h x
   |false=> .fail)
 |_=>(newsA P sz xt x h).t
def allocT(X:SX)(τ:Fr)(id:Nat)(o:Oper):T (AV×Blk):=
 let E:=X.E
 let con:=conOf X o
 match con with
 |none=>(allocA E X.f τ id o).t
 |some q=>match o.op with
  | .makeSlice t l c=>(under E.P t).t.bind fun
    | .slice e=>(info E.P e).t.bind fun i=>(zero E.P e).t.bind fun z=>(ev E τ l).t.bind fun l=>(ev E τ c).t.bind fun c=>(intA l).t.bind fun n=>(intA c).t.bind fun m=>
      (match z.cells.length==i.size with
      |true=> .br (mark q<|decide (0≤n)&&decide (n≤m)&&decide (m*i.bytes≤140737488355328)&&decide (m≤140737488355328)) (.leaf (newSl E X.f o.dst id i.size (List.replicate n.toNat z))) .fail
      |false=> .fail)
    |_=> .fail
  |_=>(allocA E X.f τ id o).t
def storeT(P:Program)(h:H)(t:TypeId)(v:AV)(p:AV):T H:=
 match p with
 | .eptr b i sz off=>(match h[b]? with
   |some (.arr sz' l)=>(size P t).t.bind fun s=>(match v.cells.length==s&&(v.cells.all AV.leaf&&sz==sz')with
    |true=> .br (decide (i<l.length)&&decide (off+s≤(l.getD i undef).cells.length)) (.leaf (h.set b (.arr sz' (l.set i (mk (setCells (l.getD i undef).cells off v.cells) (l.getD i undef)))))) .fail
    |false=> .fail)
   |_=> .fail)
 |_=>(storeA P h t v p).t
def appendT(X:SX)(con:Option Nat)(dst:Option Nat)(st xt:TypeId)(s x:AV)(h:H):T (AV×H):=
 let E:=X.E
 (under E.P st).t.bind fun
 | .slice e=>(info E.P e).t.bind fun i=>(zero E.P e).t.bind fun z=>(newsT E.P con i.size xt x h).bind fun new=>(lenA s).t.bind fun n=>
   (match szA s i.size&&(decide (0<i.bytes)&&z.cells.length==i.size)with
   |true=>chk (some (dst.getD 0)) (decide ((n+new.length)*i.bytes≤140000000000000)&&decide (n+new.length≤140000000000000)&&new.all fun y=>y.cells.all AV.leaf) (match s with
    | .nils=>brc con new.isEmpty (.leaf (.nils,h)) (.leaf ((newSl E X.f dst h.length i.size new).1,h++ [(newSl E X.f dst h.length i.size new).2]))
    | .lst sz old .clip=>brc con new.isEmpty (.leaf (.lst sz old .clip,h)) (.leaf ((newSl E X.f dst h.length sz (old++new)).1,h++ [(newSl E X.f dst h.length sz (old++new)).2]))
    | .lst sz old (.own t)=>(match h[t]? with
      |some .tail=> .leaf (.lst sz (old++new) (.own h.length),h.set t .dead++ [.tail])
      |_=> .fail)
    | .sl b off len sz clip=>(elemsT con h (.sl b off len sz clip)).bind fun old=>(match clip with
      |true=>brc con new.isEmpty (.leaf (.sl b off len sz clip,h)) (.leaf ((newSl E X.f dst h.length sz (old++new)).1,h++ [(newSl E X.f dst h.length sz (old++new)).2]))
      |false=>(match off with
       |0=> .leaf (.sl h.length 0 (old++new).length sz false,h.set b .dead++ [.arr sz (old++new)])
       |_+1=> .fail))
    |_=> .fail)
   |false=> .fail)
 |_=> .fail
def copyT(P:Program)(con:Option Nat)(dt st:TypeId)(d s:AV)(h:H):T (AV×H):=
 (under P dt).t.bind fun
 | .slice e=>(size P e).t.bind fun sz=>(newsA P sz st s h).t.bind fun new=>match d with
   | .sl b off len sz' _=>(match h[b]? with
     |some (.arr sz'' l)=>(match sz==sz'&&sz'==sz'' with
      |true=>chk con (decide (off+len≤l.length)&&new.all fun y=>y.cells.all AV.leaf) (.leaf (.int .i64 (min new.length len:Nat),h.set b (.arr sz'' (l.take off++new.take (min new.length len)++l.drop (off+min new.length len)))))
      |false=> .fail)
     |_=> .fail)
   | .nils=> .leaf (.int .i64 0,h)
   |_=> .fail
 |_=> .fail
def heavyT(X:SX)(τ:Fr)(h:H)(o:Oper):T (AV×H):=
 let E:=X.E
 let con:=conOf X o
 match o.op with
 | .store t a x=>(ev E τ a).t.bind fun p=>(ev E τ x).t.bind fun v=>(storeT E.P h t v p).bind fun h'=> .leaf (undef,h')
 | .mapUpdate t m k x| .insert t m k x=>(ev E τ m).t.bind fun m=>(ev E τ k).t.bind fun k=>(ev E τ x).t.bind fun v=>(under E.P t).t.bind fun
   | .map kt _=>match m with
     | .map b=>match h[b]? with
       |some (.map es)=>(match keyA E.P 99 kt k with
        |true=>chk (some 0) (putOk E.P E.S kt k es) (.leaf (undef,h.set b (.map (putM E.P E.S kt k v es))))
        |false=> .fail)
       |_=> .fail
     |_=> .fail
   |_=> .fail
 | .call {callee:= .builtin .append,args,argTypes}=>(evs E τ args.toList).t.bind fun
   | [s,x]=>(lift "append" argTypes[0]?).t.bind fun t=>(lift "append" argTypes[1]?).t.bind fun u=>appendT X con o.dst t u s x h
   |_=> .fail
 | .call {callee:= .builtin .copy,args,argTypes}=>(evs E τ args.toList).t.bind fun
   | [d,s]=>(lift "copy" argTypes[0]?).t.bind fun t=>(lift "copy" argTypes[1]?).t.bind fun u=>copyT E.P con t u d s h
   |_=> .fail
 |_=>(heavyA E X.f τ h o).t
def callT(X:SX)(τ:Fr)(h:H)(o:Oper):T (AV×H):=
 let E:=X.E
 match o.op with
 | .call {callee:= .value g,args, .. }=>(ev E τ g).t.bind fun
   | .clo g first caps=>(evs E τ args.toList).t.bind fun vs=>match E.C g (first++vs++caps)with
     |some r=> .leaf (thaw h r)
     |none=>X.call g (first++vs++caps) h
   |_=> .fail
 |_=> .fail
noncomputable def lightT(X:SX)(τ:Fr)(h:H)(o:Oper):T AV:=
 match o.op with
 | .call {callee:= .value (.func g),args, .. }=>(match X.lit g with
   |true=>(evs X.E τ args.toList).t.bind fun vs=>(X.call g vs h).bind fun r=> .br (askL X.E g vs r.1) (.leaf r.1) .fail
   |false=>(lightA X.E τ o).t)
 |_=>(lightA X.E τ o).t
noncomputable def opT(X:SX)(τ:Fr)(h:H)(o:Oper):T (AV×H):=
 match kindOf X.E o.op with
 | .pure=>(pureT X τ o).bind fun v=> .leaf (v,h)
 | .read=>(readT X τ h o).bind fun v=> .leaf (v,h)
 | .light=>(lightT X τ h o).bind fun v=> .leaf (v,h)
 | .alloc=>(allocT X τ h.length o).bind fun(v,b)=> .leaf (v,h++ [b])
 | .heavy=>heavyT X τ h o
 | .call=>callT X τ h o
def putT{α:Type}(X:SX)(N:Nat)(τ:Fr)(dst:Option Nat)(v:AV)(h:α):T (Fr×α):=
 match dst with
 |none=> .leaf (τ,h)
 |some d=>match decide (d<N)with
  |true=>(match X.split d with
   |true=>(match v with
    | .bool b=> .br (mark d b) (.leaf (upd τ d (.bool true),h)) (.leaf (upd τ d (.bool false),h))
    |_=> .fail)
   |false=> .leaf (upd τ d v,h))
  |false=> .fail
noncomputable def stepT(X:SX)(N:Nat)(ops:Array Oper)(τ:Fr)(h:H)(o:Oper):T (Fr×H):=
 match gtop ops τ o with
 |true=> .fail
 |false=>match wantA ops τ o with
  |true=>(opT X τ h o).bind fun(v,h')=>putT X N τ o.dst v h'
  |false=>(putA N τ o.dst undef).t.bind fun τ'=> .leaf (τ',h)
noncomputable def opsT(X:SX)(N:Nat)(ops:Array Oper):List Oper→Fr→H→T (Fr×H)
 | [],τ,h=> .leaf (τ,h)
 |o::rest,τ,h=>(stepT X N ops τ h o).bind fun(τ',h')=>opsT X N ops rest τ' h'
noncomputable def stepDT(X:SX)(N:Nat)(ops:Array Oper)(id:Nat)(τ:Fr)(h:H)(o:Oper):T (Fr×H):=
 match isAl X.E o with
 |true=>(match gtop ops τ o with
  |true=> .fail
  |false=>(match wantA ops τ o with
   |true=>(match h[id]? with
    |some .hole=>(allocT X τ id o).bind fun(v,b)=>putT X N τ o.dst v (h.set id b)
    |_=> .fail)
   |false=>(putA N τ o.dst undef).t.bind fun τ'=> .leaf (τ',h)))
 |false=>stepT X N ops τ h o
noncomputable def traceT(X:SX)(N:Nat)(ops:Array Oper):List Oper→Nat→Fr→H→T (List (Fr×H)×(Fr×H))
 | [],_,τ,h=> .leaf ([],(τ,h))
 |o::rest,id,τ,h=>(stepDT X N ops id τ h o).bind fun(τ',h')=>(traceT X N ops rest (if isAl X.E o then id+1 else id) τ' h').bind fun(l,r)=> .leaf ((τ,h)::l,r)
def touchA(E:Env)(τ:Fr)(o:Oper):Option (List Nat):=
 let one:=fun(x:Operand)=>match ev E τ x with
  | .ok v=>(match depOf v with|some b=>some [b]|none=>some [])
  | .no _=>none
 match o.op with
 | .store _ a _=>one a
 | .mapUpdate _ m _ _| .insert _ m _ _=>one m
 | .call {callee:= .builtin .append,args, .. }=>(match args.toList with
   | [s,_]=>(match ev E τ s with
     | .ok .nils=>some []
     | .ok (.lst _ _ .clip)=>some []
     | .ok (.lst _ _ (.own t))=>some [t]
     | .ok (.sl b _ _ _ _)=>some [b]
     |_=>none)
   |_=>none)
 | .alloc _| .box .. | .buildSlice .. | .makeSlice .. | .makeMap .. =>some []
 | .convert _ _ x=>(match ev E τ x with
   | .ok (.sl b _ _ _ _)=>some [b]
   |_=>some [])
 |_=>none
def drawDT(E:Env)(ops:Array Oper)(base:Nat)(tr:List (Fr×H))(lt:Fr)(lh:H)(ps:List (Nat×Nat)):Bool:=
 ps.all fun(j,i)=>match readDep E (frameAt tr lt j) (opAt ops j)with
  |some b=>decide (b<(heapAt tr lh i).length)&&(match(if isAl E (opAt ops i)then some [idAt E ops base i]else touchA E (frameAt tr lt i) (opAt ops i))with
   |some l=>!l.contains b
   |none=>false)
  |none=>true
noncomputable def regionT(X:SX)(N:Nat)(ops:Array Oper)(draw:Bool)(τ:Fr)(h:H):T (Fr×H):=
 match draw with
 |false=>opsT X N ops ops.toList τ h
 |true=>(traceT X N ops ops.toList h.length τ (h++List.replicate (alsOf X.E ops.toList) .hole)).bind fun(tr,(τ',h'))=>
  match drawS X.E ops (masksA ops.toList [])&&(drawDT X.E ops h.length tr τ' h' (pairsA X.E ops (masksA ops.toList []))&&(drawL X.E ops tr τ' h.length&&drawH X.E ops tr h' h.length))with
  |true=> .leaf (τ',h')
  |false=> .fail
def iterT(g:Fr→H→T (AM.X×Fr×H)):Nat→Fr→H→T (AM.X×Fr×H)
 |0,_,_=> .fail
 |n+1,τ,h=>(g τ h).bind fun(x,τ,h)=>match x with
  | .normal=>iterT g n τ h
  |x=> .leaf (x,τ,h)
noncomputable def execT(X:SX)(N:Nat):Code→Fr→H→T (AM.X×Fr×H)
 | .skip,τ,h=> .leaf (.normal,τ,h)
 | .label _,τ,h=> .leaf (.normal,τ,h)
 | .region _ ops draw,τ,h=>(regionT X N ops draw τ h).bind fun(τ,h)=> .leaf (.normal,τ,h)
 | .seq a b,τ,h=>(execT X N a τ h).bind fun(x,τ,h)=>match x with
   | .normal=>execT X N b τ h
   |x=> .leaf (x,τ,h)
 | .cond c a b,τ,h=>(ev X.E τ c).t.bind fun
   | .bool true=>execT X N a τ h
   | .bool false=>execT X N b τ h
   |_=> .fail
 | .block id b,τ,h=>(execT X N b τ h).bind fun(x,τ,h)=>match x with
   | .exit i=> .leaf (if i=id then .normal else .exit i,τ,h)
   |x=> .leaf (x,τ,h)
 | .loop b,τ,h=>iterT (execT X N b) X.E.M τ h
 | .exit i,τ,h=> .leaf (.exit i,τ,h)
 | .ret,τ,h=> .leaf (.ret,τ,h)
 |_,_,_=> .fail
def SX.calls(X:SX):CallF:=fun f args h=>(X.call f args h).run
end Go.Proofs.YtcocmlmligjjcaaGreatDoor.AM
namespace Go.Proofs.YtcocmlmligjjcaaGreatDoor.AM
set_option linter.unusedVariables false
set_option linter.unusedSimpArgs false
set_option linter.unusedSectionVars false
theorem T.run_bind{α β:Type}(t:T α)(f:α→T β):(t.bind f).run=t.run.bind fun a=>(f a).run:=by
 induction t with
 |leaf a=>rfl
 |fail=>rfl
 |br c t e iht ihe=>cases c with
  |true=>exact iht
  |false=>exact ihe
theorem T.bind_ok{α β:Type}{t:T α}{f:α→T β}{b:β}(h:(t.bind f).run= .ok b): ∃a,t.run= .ok a∧(f a).run= .ok b:=by
 rw[T.run_bind]at h;exact R.bind_ok h
theorem R.t_ok{α:Type}{r:R α}{a:α}(h:r.t.run= .ok a):r= .ok a:=by
 cases r with
 |ok b=>exact h
 |no s=>cases h
theorem R.tbind_ok{α β:Type}{r:R α}{f:α→T β}{b:β}(h:(r.t.bind f).run= .ok b): ∃a,r= .ok a∧(f a).run= .ok b:=by
 obtain⟨a,h1,h2⟩:=T.bind_ok h;exact⟨a,R.t_ok h1,h2⟩
theorem chk_ok{α:Type}{con:Option Nat}{c:Bool}{t:T α}{a:α}(h:(chk con c t).run= .ok a):c=true∧t.run= .ok a:=by
 cases con<;>cases c<;>first|exact⟨rfl,h⟩|cases h
theorem brf_ok{α:Type}{c:Bool}{t:T α}{a:α}(h:(T.br c t .fail).run= .ok a):c=true∧t.run= .ok a:=by
 cases c<;>first|exact⟨rfl,h⟩|cases h
theorem brc_ok{α:Type}{con:Option Nat}{c:Bool}{t e:T α}{a:α}(h:(brc con c t e).run= .ok a):(c=true∧t.run= .ok a)∨(c=false∧e.run= .ok a):=by
 cases con<;>cases c<;>first|exact .inl ⟨rfl,h⟩|exact .inr ⟨rfl,h⟩
theorem br_ok{α:Type}{c:Bool}{t e:T α}{a:α}(h:(T.br c t e).run= .ok a):(c=true∧t.run= .ok a)∨(c=false∧e.run= .ok a):=by
 cases c<;>first|exact .inl ⟨rfl,h⟩|exact .inr ⟨rfl,h⟩
theorem shape1_eq{P:Program}{t:TypeId}{v:AV}(h:fits1 P t v=true):shape1 P t v=v:=by
 unfold fits1 at h;unfold shape1;split at h
 ·split at h
  ·simp only[beq_iff_eq]at h;subst h;simp_all [AV.toI]
  ·cases h
 ·split at h
  ·simp_all [AV.toS]
  ·cases h
 ·split at h
  ·simp_all [AV.toB]
  ·cases h
 ·split at h
  ·simp only[beq_iff_eq]at h;subst h;simp_all [AV.toL]
  ·cases h
 ·rfl
theorem shapes_eq{P:Program}{cs:List AV}: ∀{ts:List TypeId} {k:Nat},fitss P cs k ts=true→k+ts.length≤cs.length→shapes P cs k ts=(cs.drop k).take ts.length
 | [],k,_,_=>by simp[shapes]
 |t::ts,k,h,hl=>by
  simp only[fitss,Bool.and_eq_true]at h;simp only[List.length_cons]at hl;rw[shapes,shape1_eq h.1,shapes_eq h.2 (by omega)]
  have hk:k<cs.length:=by omega
  simp only[List.length_cons];rw[List.drop_eq_getElem_cons hk (i:=k),List.take_succ_cons];simp[List.getD_eq_getElem?_getD,List.getElem?_eq_getElem hk]
theorem shapeC_eq{P:Program}{t:TypeId}{v:AV}(h:fitsC P t v=true):shapeC P t v=v.cells:=by
 simp only[fitsC,Bool.and_eq_true,beq_iff_eq]at h;rw[shapeC,shapes_eq h.2 (by omega),List.drop_zero,←h.1,List.take_length]
theorem boundT_ok{con:Option Nat}{v:Option AV}{d n:Nat}(h:(boundT con v d).run= .ok n):boundA v d= .ok n:=by
 cases v with
 |none=>exact h
 |some v=>
  obtain⟨i,h1,h2⟩:=R.tbind_ok h;obtain⟨h3,h4⟩:=chk_ok h2;simp only[decide_eq_true_eq]at h3;cases h4;simp[boundA,h1,h3]
theorem cutT_ok{con:Option Nat}{x y:AV}{l h n:Nat}{cut:Bool}(hc:(cutT con x l h n cut).run= .ok y):cutA x l h n cut= .ok y:=by
 unfold cutT at hc;split at hc
 ·exact hc
 ·split at hc
  ·cases hc;simp[cutA]
  ·cases hc;simp[cutA]
  ·rcases brc_ok hc with⟨h1,h2⟩|⟨h1,h2⟩
   ·cases h2;simp only[decide_eq_true_eq]at h1;simp[cutA,h1]
   ·cases h2;simp only[decide_eq_false_iff_not]at h1;simp[cutA,h1]
 ·exact R.t_ok hc
theorem sliceT_ok{P:Program}{con:Option Nat}{t:TypeId}{x y:AV}{lo hi mx:Option AV}(h:(sliceT P con t x lo hi mx).run= .ok y):sliceA P t x lo hi mx= .ok y:=by
 unfold sliceT at h;obtain⟨d,h1,h2⟩:=R.tbind_ok h;unfold sliceA;rw[h1];simp only[R.bind];split at h2
 ·split at h2
  ·obtain⟨l,h3,h2⟩:=T.bind_ok h2
   obtain⟨r,h4,h2⟩:=T.bind_ok h2;split at h2
   ·obtain⟨h5,h6⟩:=chk_ok h2
    cases h6;simp only[mark,Bool.and_eq_true,decide_eq_true_eq]at h5;simp[boundT_ok h3,boundT_ok h4,h5]
   ·cases h2
  ·cases h2
 ·obtain⟨sz,h3,h2⟩:=R.tbind_ok h2
  obtain⟨n,h4,h2⟩:=R.tbind_ok h2;obtain⟨l,h5,h2⟩:=T.bind_ok h2;obtain⟨r,h6,h2⟩:=T.bind_ok h2;obtain⟨m,h7,h2⟩:=T.bind_ok h2
  have h7':boundA mx r= .ok m:=by
   cases mx with
   |none=>exact h7
   |some v=>exact boundT_ok h7
  simp only[h3,h4,boundT_ok h5,boundT_ok h6,h7'];split at h2
  ·cases h2
  ·rename_i hne
   split at h2
   ·rename_i hsz
    obtain⟨h8,h9⟩:=chk_ok h2;simp only[mark,Bool.and_eq_true,decide_eq_true_eq]at h8
    have h10:mx.isNone=true∨hi.isSome=true:=by
     cases mx with
     |none=>exact .inl rfl
     |some v=>cases hi with
      |none=>exact absurd rfl (hne v rfl)
      |some u=>exact .inr rfl
    rw[if_pos ⟨h8.1.1,h8.1.2,h8.2,hsz,h10⟩];exact cutT_ok h9
   ·cases h2
 ·have:=R.t_ok h2
  unfold sliceA at this;rw[h1]at this
  simpa only [R.bind]using this
theorem indexT_ok{P:Program}{con:Option Nat}{t:TypeId}{x y:AV}{i:Int}(h:(indexT P con t x i).run= .ok y):indexA P t x i= .ok y:=by
 unfold indexT at h
 cases con with
 |none=>exact R.t_ok h
 |some q=>
  simp only at h;obtain⟨d,h1,h2⟩:=R.tbind_ok h;unfold indexA;rw[h1];simp only[R.bind];split at h2
  ·obtain⟨s,h3,h2⟩:=R.tbind_ok h2
   simp only[h3];split at h2
   ·rename_i hsz
    split at h2
    ·rename_i sz l tl _
     obtain⟨h4,h5⟩:=brf_ok h2;cases h5;simp only[mark,Bool.and_eq_true,decide_eq_true_eq]at h4;simp only[lenA];rw[if_pos ⟨h4.1.1,h4.1.2,hsz⟩]
     have hi:i.toNat<l.length:=by omega
     rw[List.getElem?_eq_getElem hi]
     have hg:l.getD i.toNat undef=l[i.toNat]:=by simp[List.getD_eq_getElem?_getD,List.getElem?_eq_getElem hi]
     rw[hg]at h4 ⊢
     simp[shapeC_eq h4.2]
    ·obtain⟨h4,h5⟩:=brf_ok h2
     cases h5;simp only[mark,Bool.and_eq_true,decide_eq_true_eq]at h4;simp only[lenA];rw[if_pos ⟨h4.1,h4.2,hsz⟩]
    ·obtain⟨h4,h5⟩:=brf_ok h2
     cases h5;simp only[mark,Bool.and_eq_true,decide_eq_true_eq]at h4;simp only[lenA];rw[if_pos ⟨h4.1,h4.2,hsz⟩]
    ·cases h2
   ·cases h2
  ·obtain⟨s,h3,h2⟩:=R.tbind_ok h2
   simp only[h3];split at h2
   ·obtain⟨h4,h5⟩:=brf_ok h2
    cases h5;simp only[mark,Bool.and_eq_true,decide_eq_true_eq]at h4;rw[if_pos h4]
   ·obtain⟨h4,h5⟩:=brf_ok h2
    cases h5;simp only[mark,Bool.and_eq_true,decide_eq_true_eq]at h4;rw[if_pos h4]
   ·cases h2
  ·cases h2
theorem text_eq{a b:ByteArray}:(a.toList==b.toList)=decide (a=b):=by
 rw[Bool.eq_iff_iff];simp only[beq_iff_eq,decide_eq_true_eq];constructor
 ·intro h
  exact bytes_eq (by rw[beq_toListBytes];exact beq_of_eq h)
 ·rintro rfl;rfl
theorem binT_ok{P:Program}{S:TypeId→Bool}{con:Option Nat}{op:BinOp}{t:TypeId}{x y z:AV}(h:(binT P S con op t x y).run= .ok z):binA P S op t x y= .ok z:=by
 unfold binT at h;split at h
 ·rename_i k a k' b
  split at h
  ·rename_i hk
   simp only[decide_eq_true_eq]at hk;subst hk
   have key: ∀op,binA P S op t (.int k a) (.int k b)=lift "binOp" ((pureRun P (binOp op t (.int k a) (.int k b))).bind ofV):=fun _=>rfl
   split at h
   ·cases h;rw[key];simp[binOp];rfl
   ·cases h;rw[key];simp[binOp];rfl
   ·cases h;rw[key];simp[binOp];rfl
   ·obtain⟨h1,h2⟩:=chk_ok h;cases h2;simp only[Bool.not_eq_true',decide_eq_false_iff_not]at h1;rw[key];simp[binOp,Op.intDiv,h1];rfl
   ·obtain⟨h1,h2⟩:=chk_ok h;cases h2;simp only[Bool.not_eq_true',decide_eq_false_iff_not]at h1;rw[key];simp[binOp,Op.intDiv,h1];rfl
   ·cases h;rw[key];simp[binOp];rfl
   ·cases h;rw[key];simp[binOp];rfl
   ·cases h;rw[key];simp[binOp];rfl
   ·cases h;rw[key];simp[binOp];rfl
   ·cases h;rw[key];simp[binOp];rfl
   ·cases h;rw[key];simp[binOp];rfl
   ·exact R.t_ok h
  ·exact R.t_ok h
 ·rename_i a b
  have key: ∀op,binA P S op t (.str a) (.str b)=lift "binOp" ((pureRun P (Op.stringOp op a b)).bind ofV):=fun op=>by cases op<;>rfl
  split at h
  ·obtain⟨h1,h2⟩:=chk_ok h
   cases h2;simp only[decide_eq_true_eq]at h1
   have: ¬((a.size+b.size:Nat):Int)>IntKind.i64.max:=by
    have:IntKind.i64.max=9223372036854775807:=by decide
    omega
   rw[key];simp only[Op.stringOp];rw[if_neg this];rfl
  ·cases h;rw[key];simp only[Op.stringOp,text_eq];rfl
  ·cases h;rw[key];simp only[Op.stringOp,text_eq];rfl
  ·cases h;rw[key];rfl
  ·exact R.t_ok h
 ·exact R.t_ok h
theorem index_str{P:Program}{t:TypeId}{s:ByteArray}{k:IntKind}{n:Int}(hu:P.underlying t=some .string)(h0:0≤n)(h1:n<s.size):pureRun P (Instr.index t (.string s) (.int k n))=some (.int .u8 (byteAt s n.toNat).toNat):=by
 have hn:n.toNat<s.size:=by omega
 have h2:s[n.toNat]?=some (byteAt s n.toNat):=by
  rw[getElem?_pos s n.toNat hn]
  congr 1
  show s.data[n.toNat]'hn=_
  have hl:n.toNat<s.data.toList.length:=by simpa using hn
  simp[byteAt,List.getD_eq_getElem?_getD,List.getElem?_eq_getElem hl]
 unfold Instr.index
 have h:(if 0≤n then s[n.toNat]? else none)=some (byteAt s n.toNat):=by rw[if_pos h0,h2]
 simp only[asIntOf,underlying,bind]
 have e: ∀(f:Program→Sem TypeDesc) (g:TypeDesc→Sem Value),pureRun P ((program.bind f).bind g)=pureRun P ((f P).bind g):=fun _ _=>rfl
 refine(e _ _).trans ?_
 simp only[hu];show pureRun P (match(if 0≤n then s[n.toNat]? else none)with|some b=>_|none=>_)=_;rw[h];rfl
theorem pureT_ok{X:SX}{τ:Fr}{o:Oper}{y:AV}(h:(pureT X τ o).run= .ok y):pureA X.E τ o= .ok y:=by
 unfold pureT at h
 dsimp only at h
 generalize conOf X o=con at h;split at h
 ·rename_i hop
  obtain⟨a,h1,h⟩:=R.tbind_ok h;obtain⟨b,h2,h⟩:=R.tbind_ok h;unfold pureA;rw[hop];simp only[h1,h2,R.bind];exact binT_ok h
 ·rename_i hop
  obtain⟨a,h1,h⟩:=R.tbind_ok h;split at h
  ·cases h;unfold pureA;rw[hop];simp only[h1,R.bind];rfl
  ·cases h;unfold pureA;rw[hop];simp only[h1,R.bind];rfl
  ·exact R.t_ok h
 ·rename_i hop
  obtain⟨a,h1,h⟩:=R.tbind_ok h;obtain⟨b,h2,h⟩:=R.tbind_ok h;obtain⟨c,h3,h⟩:=R.tbind_ok h;obtain⟨d,h4,h⟩:=R.tbind_ok h;unfold pureA;rw[hop];simp only[h1,h2,h3,h4,R.bind];exact sliceT_ok h
 ·rename_i hop
  obtain⟨a,h1,h⟩:=R.tbind_ok h;obtain⟨b,h2,h⟩:=R.tbind_ok h;obtain⟨c,h3,h⟩:=R.tbind_ok h;unfold pureA;rw[hop];simp only[h1,h2,h3,R.bind];exact indexT_ok h
 ·rename_i hop
  split at h
  ·exact R.t_ok h
  ·obtain⟨a,h1,h⟩:=R.tbind_ok h
   obtain⟨b,h2,h⟩:=R.tbind_ok h;split at h
   ·obtain⟨u,h3,h⟩:=R.tbind_ok h
    split at h
    ·obtain⟨h4,h5⟩:=brf_ok h
     cases h5;simp only[mark,Bool.and_eq_true,decide_eq_true_eq]at h4;unfold pureA;rw[hop];simp only[h1,h2,R.bind,index_str (under_ok h3) h4.1 h4.2];rfl
    ·cases h
   ·cases h
 ·exact R.t_ok h
end Go.Proofs.YtcocmlmligjjcaaGreatDoor.AM
namespace Go.Proofs.YtcocmlmligjjcaaGreatDoor.AM
set_option linter.unusedVariables false
set_option linter.unusedSimpArgs false
set_option linter.unusedSectionVars false
theorem toBytes_of: ∀{l:List AV},isBytes l=true→toBytes l= .ok (l.map fun v=>UInt8.ofNat v.toI.toNat)
 | [],_=>rfl
 |v::vs,h=>by
  simp only[isBytes,List.all_cons,Bool.and_eq_true]at h;have ih:=toBytes_of (l:=vs) (by simpa [isBytes]using h.2)
  have h1:=h.1
  split at h1
  ·simp[toBytes,ih,AV.toI]
  ·cases h1
theorem getD_of{α:Type}{l:List α}{i:Nat}{d:α}(h:i<l.length):l[i]?=some (l.getD i d):=by
 simp[List.getD_eq_getElem?_getD,List.getElem?_eq_getElem h]
theorem readT_ok{X:SX}{τ:Fr}{h:H}{o:Oper}{y:AV}(hr:(readT X τ h o).run= .ok y):readA X.E τ h o= .ok y:=by
 unfold readT at hr
 dsimp only at hr
 generalize conOf X o=con at hr;split at hr
 ·exact R.t_ok hr
 ·split at hr
  ·--load
   rename_i t a hop;obtain⟨p,h1,hr⟩:=R.tbind_ok hr;split at hr
   ·rename_i b i sz off
    split at hr
    ·rename_i sz' l hb
     split at hr
     ·rename_i hsz
      simp only[decide_eq_true_eq]at hsz;subst hsz;obtain⟨g,h2,hr⟩:=R.tbind_ok hr;unfold readA;rw[hop];simp only[h1,R.bind,loadA,hb];split at hr
      ·obtain⟨h3,h4⟩:=brf_ok hr
       cases h4;simp only[mark,Bool.and_eq_true,decide_eq_true_eq]at h3;rw[getD_of (d:=undef) h3.1.1];simp only[if_true,partA,h2,R.bind];rw[getD_of (d:=undef) h3.1.2,shape1_eq h3.2];rfl
      ·obtain⟨s,h5,hr⟩:=R.tbind_ok hr
       split at hr
       ·rename_i hs
        simp only[decide_eq_true_eq]at hs;obtain⟨h3,h4⟩:=brf_ok hr;cases h4;simp only[mark,Bool.and_eq_true,decide_eq_true_eq]at h3;rw[getD_of (d:=undef) h3.1.1];simp only[if_true,partA,h2,R.bind,h5];rw[if_pos h3.1.2,shapes_eq h3.2 (by omega),hs]
       ·cases hr
     ·cases hr
    ·cases hr
   ·exact R.t_ok hr
  ·--convert
   rename_i src dst x hop;obtain⟨a,h1,hr⟩:=R.tbind_ok hr;obtain⟨us,h2,hr⟩:=R.tbind_ok hr;obtain⟨ud,h3,hr⟩:=R.tbind_ok hr;split at hr
   ·obtain⟨ue,h4,hr⟩:=R.tbind_ok hr
    split at hr
    ·obtain⟨s,h5,hr⟩:=R.tbind_ok hr
     split at hr
     ·rename_i hs
      obtain⟨l,h6,hr⟩:=R.tbind_ok hr;obtain⟨h7,h8⟩:=brf_ok hr;cases h8;unfold readA;rw[hop];simp only[h1,h2,h3,h4,h5,h6,R.bind];rw[if_pos hs,toBytes_of h7];rfl
     ·cases hr
    ·cases hr
   ·cases hr
  ·--lookup
   rename_i t m k ok hop;obtain⟨vm,h1,hr⟩:=R.tbind_ok hr;obtain⟨vk,h2,hr⟩:=R.tbind_ok hr;obtain⟨u,h3,hr⟩:=R.tbind_ok hr;split at hr
   ·rename_i kt te
    obtain⟨es,h4,hr⟩:=R.tbind_ok hr;obtain⟨z,h5,hr⟩:=R.tbind_ok hr;split at hr
    ·rename_i hk
     unfold readA;rw[hop];simp only[h1,h2,h3,h4,h5,R.bind];rw[if_neg (by simp[hk])];split at hr
     all_goals
      rcases brc_ok hr with⟨g1,g2⟩|⟨g1,g2⟩
      ·obtain⟨g3,g4⟩:=chk_ok g2
       cases g4;simp only[Bool.and_eq_true]at g3;unfold findB at g1;split at g1
       ·rename_i p hf
        obtain⟨i,v⟩:=p
        have hv:findV X.E.P X.E.S kt vk es=v:=by unfold findV;rw[hf]
        rw[hv]at g3 ⊢
        simp[hf,lift,shape1_eq g3.2.2]
       ·cases g1
      ·obtain⟨g3,g4⟩:=chk_ok g2
       cases g4;unfold findB at g1;split at g1
       ·cases g1
       ·rename_i hne
        unfold findS at g3
        cases hf:find (eqT X.E.P X.E.S 99 kt) vk es with
        |none=>rw [hf]at g3;cases g3
        |some r=>cases r with
         |none=>simp [hf,lift]
         |some p=>exact(hne _ hf).elim
    ·cases hr
   ·cases hr
  ·exact R.t_ok hr
theorem elemsT_ok{con:Option Nat}{h:H}{x:AV}{l:List AV}(he:(elemsT con h x).run= .ok l):elemsA h x= .ok l:=by
 unfold elemsT at he;split at he
 ·split at he
  ·rename_i hb
   split at he
   ·rename_i hs
    obtain⟨h1,h2⟩:=brf_ok he;cases h2;simp only[mark,decide_eq_true_eq]at h1 hs;simp[elemsA,hb,h1,hs]
   ·cases he
  ·cases he
 ·exact R.t_ok he
theorem newsT_ok{P:Program}{con:Option Nat}{sz:Nat}{xt:TypeId}{x:AV}{h:H}{l:List AV}(hn:(newsT P con sz xt x h).run= .ok l):newsA P sz xt x h= .ok l:=by
 unfold newsT at hn;obtain⟨d,h1,h2⟩:=R.tbind_ok hn;split at h2
 ·split at h2
  ·rename_i hs
   unfold newsA;simp only[h1,R.bind];rw[if_pos hs];exact elemsT_ok h2
  ·cases h2
 ·exact R.t_ok h2
theorem allocT_ok{X:SX}{τ:Fr}{id:Nat}{o:Oper}{r:AV×Blk}(hr:(allocT X τ id o).run= .ok r):allocA X.E X.f τ id o= .ok r:=by
 unfold allocT at hr
 dsimp only at hr
 generalize conOf X o=con at hr;split at hr
 ·exact R.t_ok hr
 ·split at hr
  ·rename_i hop
   obtain⟨d,h1,hr⟩:=R.tbind_ok hr;split at hr
   ·obtain⟨i,h2,hr⟩:=R.tbind_ok hr
    obtain⟨z,h3,hr⟩:=R.tbind_ok hr;obtain⟨vl,h4,hr⟩:=R.tbind_ok hr;obtain⟨vc,h5,hr⟩:=R.tbind_ok hr;obtain⟨n,h6,hr⟩:=R.tbind_ok hr;obtain⟨m,h7,hr⟩:=R.tbind_ok hr;split at hr
    ·rename_i hz
     simp only[beq_iff_eq]at hz;obtain⟨h8,h9⟩:=brf_ok hr;cases h9;simp only[mark,Bool.and_eq_true,decide_eq_true_eq]at h8;unfold allocA;rw[hop];simp only[h1,h2,h3,h4,h5,h6,h7,R.bind];rw[if_pos ⟨h8.1.1.1,h8.1.1.2,h8.1.2,h8.2,hz⟩]
    ·cases hr
   ·cases hr
  ·exact R.t_ok hr
theorem storeT_ok{P:Program}{h h':H}{t:TypeId}{v p:AV}(hs:(storeT P h t v p).run= .ok h'):storeA P h t v p= .ok h':=by
 unfold storeT at hs;split at hs
 ·split at hs
  ·rename_i hb
   obtain⟨s,h1,hs⟩:=R.tbind_ok hs;split at hs
   ·rename_i hc
    simp only[Bool.and_eq_true,beq_iff_eq]at hc;obtain⟨h2,h3⟩:=brf_ok hs;cases h3;simp only[mark,Bool.and_eq_true,decide_eq_true_eq]at h2;simp only[storeA,hb,R.bind,h1];rw[getD_of (d:=undef) h2.1];simp only;rw[if_pos ⟨hc.1,h2.2,hc.2.1,hc.2.2⟩]
   ·cases hs
  ·cases hs
 ·exact R.t_ok hs
theorem newsI_of{P:Program}{i:TypeInfo}{z:AV}{xt:TypeId}{x:AV}{h:H}{l:List AV}(hn:newsA P i.size xt x h= .ok l):newsI P i z xt x h= .ok l:=by
 unfold newsI;split
 ·rename_i k hk
  unfold newsA under at hn;rw[hk]at hn;cases hn
 ·exact hn
theorem appendT_ok{X:SX}{con:Option Nat}{dst:Option Nat}{st xt:TypeId}{s x:AV}{h:H}{r:AV×H}(ha:(appendT X con dst st xt s x h).run= .ok r):appendA X.E X.f dst st xt s x h= .ok r:=by
 unfold appendT at ha;obtain⟨d,h1,ha⟩:=R.tbind_ok ha;split at ha
 ·obtain⟨i,h2,ha⟩:=R.tbind_ok ha
  obtain⟨z,h3,ha⟩:=R.tbind_ok ha;obtain⟨new,h4,ha⟩:=T.bind_ok ha;obtain⟨n,h5,ha⟩:=R.tbind_ok ha;split at ha
  ·rename_i hc
   simp only[Bool.and_eq_true,beq_iff_eq,decide_eq_true_eq]at hc;obtain⟨h6,h7⟩:=chk_ok ha;simp only[mark,Bool.and_eq_true,decide_eq_true_eq]at h6;unfold appendA;simp only[h1,h2,h3,newsI_of (newsT_ok h4),h5,R.bind];rw[if_pos ⟨hc.1,h6.1.1,h6.1.2,hc.2.1,hc.2.2,h6.2⟩];split at h7
   ·rcases brc_ok h7 with⟨g1,g2⟩|⟨g1,g2⟩<;>(cases g2;simp[g1])
   ·rcases brc_ok h7 with⟨g1,g2⟩|⟨g1,g2⟩<;>(cases g2;simp[g1])
   ·split at h7
    ·rename_i ht;cases h7;simp[ht]
    ·cases h7
   ·obtain⟨old,h8,h7⟩:=T.bind_ok h7
    simp only[elemsT_ok h8];split at h7
    ·rcases brc_ok h7 with⟨g1,g2⟩|⟨g1,g2⟩<;>(cases g2;simp[g1])
    ·split at h7
     ·cases h7;simp
     ·cases h7
   ·cases h7
  ·cases ha
 ·cases ha
theorem copyT_ok{P:Program}{con:Option Nat}{dt st:TypeId}{d s:AV}{h:H}{r:AV×H}(hc:(copyT P con dt st d s h).run= .ok r):copyA P dt st d s h= .ok r:=by
 unfold copyT at hc;obtain⟨u,h1,hc⟩:=R.tbind_ok hc;split at hc
 ·obtain⟨sz,h2,hc⟩:=R.tbind_ok hc
  obtain⟨new,h3,hc⟩:=R.tbind_ok hc;unfold copyA;simp only[h1,h2,h3,R.bind];split at hc
  ·split at hc
   ·rename_i hb
    split at hc
    ·rename_i hs
     simp only[Bool.and_eq_true,beq_iff_eq]at hs;obtain⟨h4,h5⟩:=chk_ok hc;simp only[mark,Bool.and_eq_true,decide_eq_true_eq]at h4;cases h5;simp only[hb];rw[if_pos ⟨hs.1,hs.2,h4.1,h4.2⟩]
    ·cases hc
   ·cases hc
  ·cases hc;rfl
  ·cases hc
 ·cases hc
theorem heavyT_ok{X:SX}{τ:Fr}{h:H}{o:Oper}{r:AV×H}(hr:(heavyT X τ h o).run= .ok r):heavyA X.E X.f τ h o= .ok r:=by
 unfold heavyT at hr
 dsimp only at hr
 generalize conOf X o=con at hr;split at hr
 ·rename_i hop
  obtain⟨p,h1,hr⟩:=R.tbind_ok hr;obtain⟨v,h2,hr⟩:=R.tbind_ok hr;obtain⟨h',h3,hr⟩:=T.bind_ok hr;cases hr;unfold heavyA;rw[hop];simp only[h1,h2,storeT_ok h3,R.bind]
 all_goals try (
  rename_i hop;obtain⟨vm,h1,hr⟩:=R.tbind_ok hr;obtain⟨vk,h2,hr⟩:=R.tbind_ok hr;obtain⟨vx,h3,hr⟩:=R.tbind_ok hr;obtain⟨u,h4,hr⟩:=R.tbind_ok hr;split at hr
  ·split at hr
   ·split at hr
    ·rename_i hb
     split at hr
     ·rename_i hk
      obtain⟨h5,h6⟩:=chk_ok hr;cases h6;unfold heavyA;rw[hop];simp only[h1,h2,h3,h4,R.bind,hb];rw[if_neg (by simp[hk])];unfold putOk at h5;split at h5
      ·rename_i hf
       split at h5
       ·rename_i e he
        simp[hf,lift,he,h5,putM]
       ·cases h5
      ·rename_i hf
       simp[hf,lift,putM]
      ·cases h5
     ·cases hr
    ·cases hr
   ·cases hr
  ·cases hr)
 ·rename_i args argTypes hop
  obtain⟨vs,h1,hr⟩:=R.tbind_ok hr;split at hr
  ·obtain⟨t,h2,hr⟩:=R.tbind_ok hr
   obtain⟨u,h3,hr⟩:=R.tbind_ok hr;unfold heavyA;rw[hop];simp only[h1,h2,h3,R.bind];exact appendT_ok hr
  ·cases hr
 ·rename_i args argTypes hop
  obtain⟨vs,h1,hr⟩:=R.tbind_ok hr;split at hr
  ·obtain⟨t,h2,hr⟩:=R.tbind_ok hr
   obtain⟨u,h3,hr⟩:=R.tbind_ok hr;unfold heavyA;rw[hop];simp only[h1,h2,h3,R.bind];exact copyT_ok hr
  ·cases hr
 ·exact R.t_ok hr
theorem callT_ok{X:SX}{τ:Fr}{h:H}{o:Oper}{r:AV×H}(hr:(callT X τ h o).run= .ok r):callA X.E X.calls τ h o= .ok r:=by
 unfold callT at hr
 dsimp only at hr
 split at hr
 ·rename_i hop
  obtain⟨g,h1,hr⟩:=R.tbind_ok hr;split at hr
  ·obtain⟨vs,h2,hr⟩:=R.tbind_ok hr
   unfold callA;rw[hop];simp only[h1,h2,R.bind];split at hr
   ·rename_i hc;rw[hc];exact hr
   ·rename_i hc;rw[hc];exact hr
  ·cases hr
 ·cases hr
theorem lightT_ok{X:SX}{τ:Fr}{h:H}{o:Oper}{v:AV}(hr:(lightT X τ h o).run= .ok v):lightA X.E τ o= .ok v:=by
 unfold lightT at hr;split at hr
 ·rename_i g args ats hop
  split at hr
  ·obtain⟨vs,h1,hr⟩:=R.tbind_ok hr
   obtain⟨r,h2,hr⟩:=T.bind_ok hr;obtain⟨h3,hr⟩:=brf_ok hr;cases hr
   have h4:X.E.C g vs=some r.1∧noF r.1=true:=by simpa [askL]using h3
   unfold lightA;simp only[hop,h1,R.bind,h4.1,h4.2,if_true]
  ·exact R.t_ok hr
 ·exact R.t_ok hr
theorem opT_ok{X:SX}{τ:Fr}{h:H}{o:Oper}{r:AV×H}(hr:(opT X τ h o).run= .ok r):opA X.E X.f X.calls τ h o= .ok r:=by
 unfold opT at hr;unfold opA;split at hr
 ·rename_i hk;obtain⟨v,h1,hr⟩:=T.bind_ok hr;cases hr;simp[hk,pureT_ok h1]
 ·rename_i hk;obtain⟨v,h1,hr⟩:=T.bind_ok hr;cases hr;simp[hk,readT_ok h1]
 ·rename_i hk;obtain⟨v,h1,hr⟩:=T.bind_ok hr;cases hr;simp[hk,lightT_ok h1]
 ·rename_i hk;obtain⟨⟨v,b⟩,h1,hr⟩:=T.bind_ok hr;cases hr;simp[hk,allocT_ok h1]
 ·rename_i hk;simp only[hk];exact heavyT_ok hr
 ·rename_i hk;simp only[hk];exact callT_ok hr
theorem putT_ok{α:Type}{X:SX}{N:Nat}{τ:Fr}{dst:Option Nat}{v:AV}{h:α}{r:Fr×α}(hr:(putT X N τ dst v h).run= .ok r):putA N τ dst v= .ok r.1∧r.2=h:=by
 unfold putT at hr;split at hr
 ·cases hr;exact⟨rfl,rfl⟩
 ·split at hr
  ·rename_i hd
   simp only[decide_eq_true_eq]at hd;split at hr
   ·split at hr
    ·rcases br_ok hr with⟨g1,g2⟩|⟨g1,g2⟩<;>(subst g1;cases g2;exact⟨by simp[putA_some,hd],rfl⟩)
    ·cases hr
   ·cases hr;exact⟨by simp[putA_some,hd],rfl⟩
  ·cases hr
theorem stepT_ok{X:SX}{N:Nat}{ops:Array Oper}{τ:Fr}{h:H}{o:Oper}{r:Fr×H}(hr:(stepT X N ops τ h o).run= .ok r):stepA X.E X.f X.calls N ops τ h o= .ok r:=by
 unfold stepT at hr;unfold stepA;split at hr
 ·cases hr
 rename_i hgt;rw[if_neg (by simp[hgt])];split at hr
 ·rename_i hw
  obtain⟨⟨v,h'⟩,h1,hr⟩:=T.bind_ok hr;obtain⟨h2,h3⟩:=putT_ok hr;rw[if_pos hw,opT_ok h1];simp only[h2,R.bind];rw[←h3]
 ·rename_i hw
  obtain⟨τ',h1,hr⟩:=R.tbind_ok hr;cases hr;rw[if_neg (by simp[hw])];simp[h1]
theorem opsT_ok{X:SX}{N:Nat}{ops:Array Oper}: ∀{l:List Oper} {τ:Fr} {h:H} {r:Fr×H},(opsT X N ops l τ h).run= .ok r→opsA X.E X.f X.calls N ops l τ h= .ok r
 | [],τ,h,r,hr=>hr
 |o::rest,τ,h,r,hr=>by
  obtain⟨⟨τ',h'⟩,h1,hr⟩:=T.bind_ok hr;simp only[opsA,stepT_ok h1,R.bind];exact opsT_ok hr
theorem stepDT_ok{X:SX}{N:Nat}{ops:Array Oper}{id:Nat}{τ:Fr}{h:H}{o:Oper}{r:Fr×H}(hr:(stepDT X N ops id τ h o).run= .ok r):stepD X.E X.f X.calls N ops id τ h o= .ok r:=by
 unfold stepDT at hr;unfold stepD;split at hr
 ·rename_i ha
  rw[if_pos ha];split at hr
  ·cases hr
  rename_i hgt;rw[if_neg (by simp[hgt])];split at hr
  ·rename_i hw
   rw[if_pos hw];split at hr
   ·rename_i hh
    obtain⟨⟨v,b⟩,h1,hr⟩:=T.bind_ok hr;obtain⟨h2,h3⟩:=putT_ok hr;simp only[hh,allocT_ok h1,h2,R.bind];rw[←h3]
   ·cases hr
  ·rename_i hw
   rw[if_neg (by simp[hw])];obtain⟨τ',h1,hr⟩:=R.tbind_ok hr;cases hr;simp[h1]
 ·rename_i ha
  rw[if_neg (by simp[ha])];exact stepT_ok hr
theorem traceT_ok{X:SX}{N:Nat}{ops:Array Oper}: ∀{l:List Oper} {id:Nat} {τ:Fr} {h:H} {r:List (Fr×H)×(Fr×H)},(traceT X N ops l id τ h).run= .ok r→traceA X.E X.f X.calls N ops l id τ h= .ok r
 | [],id,τ,h,r,hr=>hr
 |o::rest,id,τ,h,r,hr=>by
  obtain⟨⟨τ',h'⟩,h1,hr⟩:=T.bind_ok hr;obtain⟨⟨l,r2⟩,h2,hr⟩:=T.bind_ok hr;cases hr;simp only[traceA,stepDT_ok h1,R.bind,traceT_ok h2]
end Go.Proofs.YtcocmlmligjjcaaGreatDoor.AM
namespace Go.Proofs.YtcocmlmligjjcaaGreatDoor.AM
set_option linter.unusedVariables false
set_option linter.unusedSimpArgs false
set_option linter.unusedSectionVars false
theorem same_refl: ∀v:AV,same v v=true:=by
 intro v
 exact AV.rec (motive_1:=fun v=>same v v=true) (motive_2:=fun l=>sames l l=true)
  (fun _=>by simp[same]) (fun _ _=>by simp[same]) (fun _=>by simp[same]) rfl (fun _ _=>by simp[same]) (fun _ _ _ _=>by simp[same]) (fun cs off h=>by simp[same,h]) rfl
  (fun _ _ _ _ _=>by simp[same]) (fun _ _ _ _=>by simp[same]) (fun _ l _ h=>by simp[same,h]) (fun _ l h=>by simp[same,h]) rfl (fun _=>by simp[same]) rfl
  (fun _ l m h k=>by simp[same,h,k]) rfl (fun l h=>by simpa [same]using h) (fun l h=>by simpa [same]using h) rfl (fun x xs h k=>by simp[sames,h,k]) v
theorem sames_refl: ∀l:List AV,sames l l=true
 | []=>rfl
 |x::xs=>by simp[sames,same_refl x,sames_refl xs]
theorem samePairs_refl: ∀l:List (AV×AV),samePairs l l=true
 | []=>rfl
 |x::xs=>by simp[samePairs,same_refl,samePairs_refl xs]
theorem sameBlk_refl(b:Option Blk):sameBlk b b=true:=by
 cases b with
 |none=>rfl
 |some b=>cases b<;>simp [sameBlk,sames_refl,samePairs_refl]
theorem get_set_ne{α:Type}{l:List α}{i j:Nat}{x:α}(h:i≠j):(l.set i x)[j]?=l[j]?:=by
 rw[List.getElem?_set];simp[h]
theorem get_append_lt{α:Type}{l m:List α}{j:Nat}(h:j<l.length):(l++m)[j]?=l[j]?:=List.getElem?_append_left h
theorem store_touch{P:Program}{h h':H}{t:TypeId}{v p:AV}(hs:storeA P h t v p= .ok h'){b:Nat}(hb:depOf p≠some b):h'[b]?=h[b]?:=by
 unfold storeA at hs;split at hs
 ·split at hs
  ·obtain⟨s,h1,hs⟩:=R.bind_ok hs
   split at hs
   ·cases hs;exact get_set_ne (fun e=>hb (by rw[e];rfl))
   ·cases hs
  ·cases hs
 ·split at hs
  ·split at hs
   ·obtain⟨s,h1,hs⟩:=R.bind_ok hs
    split at hs
    ·cases hs;exact get_set_ne (fun e=>hb (by rw[e];rfl))
    ·cases hs
   ·cases hs
  ·cases hs
 ·cases hs
theorem append_touch{E:Env}{f:FuncId}{dst:Option Nat}{st xt:TypeId}{s x:AV}{h:H}{r:AV×H}(ha:appendA E f dst st xt s x h= .ok r){b:Nat}(hb:b<h.length)
  (hs:match s with| .nils=>True| .lst _ _ .clip=>True| .lst _ _ (.own t)=>t≠b| .sl c _ _ _ _=>c≠b|_=>False):r.2[b]?=h[b]?:=by
 unfold appendA at ha;obtain⟨d,h1,ha⟩:=R.bind_ok ha;split at ha
 ·obtain⟨i,h2,ha⟩:=R.bind_ok ha
  obtain⟨z,h3,ha⟩:=R.bind_ok ha;obtain⟨new,h4,ha⟩:=R.bind_ok ha;obtain⟨n,h5,ha⟩:=R.bind_ok ha;split at ha
  ·split at ha
   ·split at ha
    ·cases ha;rfl
    ·cases ha;exact get_append_lt hb
   ·split at ha
    ·cases ha;rfl
    ·cases ha;exact get_append_lt hb
   ·split at ha
    ·cases ha
     simp only at hs;rw[get_append_lt (by simpa using hb)];exact get_set_ne hs
    ·cases ha
   ·simp only at hs
    obtain⟨old,h6,ha⟩:=R.bind_ok ha;split at ha
    ·split at ha
     ·cases ha;rfl
     ·cases ha;exact get_append_lt hb
    ·split at ha
     ·cases ha
      rw[get_append_lt (by simpa using hb)];exact get_set_ne hs
     ·cases ha
   ·cases ha
  ·cases ha
 ·cases ha
theorem touch_op{E:Env}{f:FuncId}{call:CallF}{τ:Fr}{h h':H}{o:Oper}{y:AV}{l:List Nat}(ho:opA E f call τ h o= .ok (y,h'))(hna:isAl E o=false)(hO:isO E o=true)(ht:touchA E τ o=some l){b:Nat}(hb:b<h.length)(hl:b∉l):h'[b]?=h[b]?:=by
 unfold opA at ho
 cases hk:kindOf E o.op with
 |pure=>simp [isO,hk]at hO
 |read=>simp [isO,hk]at hO
 |light=>simp [isO,hk]at hO
 |alloc=>simp [isAl,hk]at hna
 |call=>
  exfalso
  unfold touchA at ht
  cases hop:o.op with
  |call c=>
   obtain⟨callee,args,ats⟩:=c
   cases callee with
   |builtin bi=>simp only[hop,kindOf]at hk;cases bi<;>simp at hk;split at hk<;>cases hk
   |value g=>simp [hop]at ht
   |invoke r m=>simp [hop]at ht
  |store=>simp [hop,kindOf]at hk
  |mapUpdate=>simp [hop,kindOf]at hk
  |insert=>simp [hop,kindOf]at hk
  |alloc=>simp [hop,kindOf]at hk
  |box=>simp [hop,kindOf]at hk
  |buildSlice=>simp [hop,kindOf]at hk
  |makeSlice=>simp [hop,kindOf]at hk
  |makeMap=>simp [hop,kindOf]at hk
  |convert src dst x=>simp only[hop,kindOf]at hk;split at hk<;>(try split at hk)<;>cases hk
  |_=>simp [hop]at ht
 |heavy=>
  simp only[hk]at ho;unfold heavyA at ho;unfold touchA at ht
  have one: ∀{x:Operand} {v:AV},ev E τ x= .ok v→(match ev E τ x with| .ok v=>(match depOf v with|some b=>some [b]|none=>some [])| .no _=>none)=some l→depOf v≠some b:=by
   intro x v hv hx;rw[hv]at hx;simp only at hx
   cases hd:depOf v with
   |none=>simp
   |some c=>
    rw[hd]at hx;cases hx;intro e;cases e;exact hl (List.mem_singleton.2 rfl)
  split at ho
  ·rename_i src dst x hop
   rw[hop]at ht;simp only at ht;obtain⟨v,h1,ho⟩:=R.bind_ok ho;obtain⟨us,h2,ho⟩:=R.bind_ok ho;rw[h1]at ht;split at ho
   ·rename_i e b0 off n sz clip
    cases ht;obtain⟨ue,h3,ho⟩:=R.bind_ok ho;split at ho
    ·split at ho
     ·cases ho
      exact get_set_ne (fun e=>hl (by simp[e]))
     ·cases ho
    ·cases ho
   ·cases ho
  ·rename_i hop
   rw[hop]at ht;simp only at ht;obtain⟨p,h1,ho⟩:=R.bind_ok ho;obtain⟨v,h2,ho⟩:=R.bind_ok ho;obtain⟨h3,h4,ho⟩:=R.bind_ok ho;cases ho;exact store_touch h4 (one h1 ht)
  ·rename_i hop
   rw[hop]at ht;simp only at ht;obtain⟨vm,h1,ho⟩:=R.bind_ok ho;obtain⟨vk,h2,ho⟩:=R.bind_ok ho;obtain⟨vx,h3,ho⟩:=R.bind_ok ho;obtain⟨u,h4,ho⟩:=R.bind_ok ho
   have h5:=one h1 ht
   split at ho
   ·split at ho
    ·have hne: ∀{b0:Nat} {x:Blk},depOf (.map b0)≠some b→(h.set b0 x)[b]?=h[b]?:=fun{b0 x} h5=>get_set_ne (fun e=>h5 (by rw[e];rfl))
     split at ho
     ·split at ho
      ·cases ho
      ·obtain⟨r,h6,ho⟩:=R.bind_ok ho
       split at ho
       ·split at ho
        ·split at ho
         ·cases ho;exact hne h5
         ·cases ho
        ·cases ho
       ·cases ho;exact hne h5
     ·cases ho
    ·cases ho
   ·cases ho
  ·rename_i hop
   rw[hop]at ht;simp only at ht;obtain⟨vm,h1,ho⟩:=R.bind_ok ho;obtain⟨vk,h2,ho⟩:=R.bind_ok ho;obtain⟨vx,h3,ho⟩:=R.bind_ok ho;obtain⟨u,h4,ho⟩:=R.bind_ok ho
   have h5:=one h1 ht
   split at ho
   ·split at ho
    ·have hne: ∀{b0:Nat} {x:Blk},depOf (.map b0)≠some b→(h.set b0 x)[b]?=h[b]?:=fun{b0 x} h5=>get_set_ne (fun e=>h5 (by rw[e];rfl))
     split at ho
     ·split at ho
      ·cases ho
      ·obtain⟨r,h6,ho⟩:=R.bind_ok ho
       split at ho
       ·split at ho
        ·split at ho
         ·cases ho;exact hne h5
         ·cases ho
        ·cases ho
       ·cases ho;exact hne h5
     ·cases ho
    ·cases ho
   ·cases ho
  ·rename_i bi args ats hop
   rw[hop]at ht;obtain⟨vs,h1,ho⟩:=R.bind_ok ho;split at ho
   ·--append
    obtain⟨t,h2,ho⟩:=R.bind_ok ho;obtain⟨u,h3,ho⟩:=R.bind_ok ho;rename_i s x;simp only at ht
    cases hal:args.toList with
    |nil=>rw [hal]at ht;cases ht
    |cons a1 as=>
     rw[hal]at ht h1
     cases as with
     |nil=>cases ht
     |cons a2 as=>
      cases as with
      |cons _ _=>cases ht
      |nil=>
       obtain⟨s',g1,h1⟩:=R.bind_ok h1;obtain⟨r',g2,h1⟩:=R.bind_ok h1;obtain⟨x',g3,g2⟩:=R.bind_ok g2;cases g2;cases h1;simp only[g1]at ht
       refine append_touch ho hb ?_
       split at ht
       ·rename_i he;cases he;trivial
       ·rename_i he;cases he;trivial
       ·rename_i he;cases he;cases ht;exact fun e=>hl (by simp[e])
       ·rename_i he;cases he;cases ht;exact fun e=>hl (by simp[e])
       ·cases ht
   ·--copy
    cases ht
   ·--clear
    cases ht
   ·cases ho
  ·cases ho
theorem touch_stepD{E:Env}{f:FuncId}{call:CallF}{N:Nat}{ops:Array Oper}{base i:Nat}{τ τ':Fr}{h h':H}{o:Oper}(hs:stepD E f call N ops (idAt E ops base i) τ h o= .ok (τ',h')){l:List Nat}(hO:isO E o=true)
  (ht:(if isAl E o then some [idAt E ops base i]else touchA E τ o)=some l) {b:Nat} (hb:b<h.length) (hl:l.contains b=false):h'[b]?=h[b]?:=by
 have hl':b∉l:=by simpa using hl
 cases ha:isAl E o with
 |true=>
  rw[ha]at ht;cases ht
  rcases stepD_al hs ha with⟨_,_,v,blk,_,rfl,_⟩|⟨_,rfl,_⟩
  ·exact get_set_ne (fun e=>hl' (by simp[e]))
  ·rfl
 |false=>
  rw[ha]at ht
  have hst:=stepD_ot hs ha
  unfold stepA at hst;split at hst
  ·cases hst
  split at hst
  ·split at hst
   ·rename_i v h2 ho
    obtain⟨τ2,_,hst⟩:=R.bind_ok hst;cases hst;exact touch_op ho ha hO (by simpa using ht) hb hl'
   ·cases hst
  ·obtain⟨τ2,_,hst⟩:=R.bind_ok hst
   cases hst;rfl
theorem regionT_ok{X:SX}{N:Nat}{ops:Array Oper}{draw:Bool}{τ:Fr}{h:H}{r:Fr×H}(hr:(regionT X N ops draw τ h).run= .ok r):regionA X.E X.f X.calls N ops draw τ h= .ok r:=by
 unfold regionT at hr;split at hr
 ·exact opsT_ok hr
 ·obtain⟨⟨tr,τ',h'⟩,h1,hr⟩:=T.bind_ok hr
  simp only at hr
  have htr:=traceT_ok h1
  split at hr
  ·rename_i hc
   simp only[Bool.and_eq_true]at hc;cases hr;simp only[regionA,htr,R.bind];rw[if_pos hc.1,if_pos ?_,if_pos hc.2.2.1,if_pos hc.2.2.2];obtain⟨t1,t2,t3,t4⟩:=trace_spec htr
   refine List.all_eq_true.2 fun⟨j,i⟩ hm=>?_
   have h2:=List.all_eq_true.1 hc.2.1 (j,i) hm
   simp only at h2 ⊢
   cases hd:readDep X.E (frameAt tr τ' j) (opAt ops j)with
   |none=>rfl
   |some b=>
    rw[hd]at h2;simp only[Bool.and_eq_true,decide_eq_true_eq]at h2;obtain⟨h3,h4⟩:=h2;simp only[Bool.or_eq_true];left;unfold pairsA at hm;obtain⟨j',hj',hm⟩:=List.mem_flatMap.1 hm;split at hm
    ·obtain⟨i',hi',he⟩:=List.mem_map.1 hm
     cases he;obtain⟨hi1,hi2⟩:=List.mem_filter.1 hi';simp only[Bool.and_eq_true]at hi2
     have hi:=List.mem_range.1 hi1
     split at h4
     ·rename_i l hl
      have hstep:=t4 i (opAt ops i) (by rw[Array.getElem?_toList];exact opAt_get hi)
      rw[touch_stepD hstep hi2.1.1.1 hl h3 (by simpa using h4)];exact sameBlk_refl _
     ·cases h4
    ·cases hm
  ·cases hr
theorem iterT_ok{g:Fr→H→T (AM.X×Fr×H)}{g':Fr→H→R (AM.X×Fr×H)}(hg: ∀τ h r,(g τ h).run= .ok r→g' τ h= .ok r): ∀{n:Nat} {τ:Fr} {h:H} {r:AM.X×Fr×H},(iterT g n τ h).run= .ok r→iter g' n τ h= .ok r
 |0,τ,h,r,hr=>by cases hr
 |n+1,τ,h,r,hr=>by
  obtain⟨⟨x,τ',h'⟩,h1,hr⟩:=T.bind_ok hr;simp only[iter,hg _ _ _ h1]
  cases x with
  |normal=>exact iterT_ok hg hr
  |ret=>exact hr
  |exit i=>exact hr
theorem execT_ok{X:SX}{N:Nat}: ∀{c:Code} {τ:Fr} {h:H} {r:AM.X×Fr×H},(execT X N c τ h).run= .ok r→exec X.E X.f X.calls N c τ h= .ok r:=by
 intro c
 induction c with
 |skip=>intro τ h r hr;exact hr
 |label=>intro τ h r hr;exact hr
 |region id ops draw=>
  intro τ h r hr;obtain⟨⟨τ',h'⟩,h1,hr⟩:=T.bind_ok hr;simp only[exec,regionP_eq,regionT_ok h1,R.bind];exact hr
 |seq a b iha ihb=>
  intro τ h r hr;obtain⟨⟨x,τ',h'⟩,h1,hr⟩:=T.bind_ok hr;simp only[exec,iha h1]
  cases x with
  |normal=>exact ihb hr
  |ret=>exact hr
  |exit i=>exact hr
 |cond c a b iha ihb=>
  intro τ h r hr;obtain⟨v,h1,hr⟩:=R.tbind_ok hr;simp only[exec,h1];split at hr
  ·exact iha hr
  ·exact ihb hr
  ·cases hr
 |block id b ih=>
  intro τ h r hr;obtain⟨⟨x,τ',h'⟩,h1,hr⟩:=T.bind_ok hr;simp only[exec,ih h1]
  cases x with
  |normal=>exact hr
  |ret=>exact hr
  |exit i=>exact hr
 |loop b ih=>
  intro τ h r hr;simp only[exec];exact iterT_ok (fun _ _ _=>ih) hr
 |exit i=>intro τ h r hr;exact hr
 |ret=>intro τ h r hr;exact hr
 |_=>intro τ h r hr;cases hr
end Go.Proofs.YtcocmlmligjjcaaGreatDoor.AM
namespace Go.Proofs.YtcocmlmligjjcaaGreatDoor.AM
set_option linter.unusedVariables false
set_option linter.unusedSimpArgs false
set_option linter.unusedSectionVars false
def CodeOK(E:Env)(N:Nat)(c:Code)(τ:Fr)(h:H)(x:X)(τ':Fr)(h':H):Prop:=
 ∀(A:Area) (s0 nn:Nat) (rd:Option Nat) (ρ:Rho) (w:World) (a:Act),(rd=none∨noRF c=true)→St E A ρ w a τ (view h) N s0→c.wpIn (fw rd) nn E.P (Post E A N s0 ρ w h x τ' h') a w
def Con(E:Env)(f:FuncId)(args:List AV)(h:H)(r:AV)(h':H):Prop:=
 ∀(A:Area) (ρ:Rho) (w:World) (vs:Array Value),HR E.G A ρ w (view h)→CRs (Forb A ρ (view h)) ρ w vs.toList args→
  (∀W,(callFunc f vs).run E.P W= .ok (.enter f vs) W)∧Calls E.P f vs w fun e w'=> ∃v ρ',e= .returned v∧Ext (Own ρ (view h)) ρ w (Own ρ' (view h')) ρ' w'∧HR E.G A ρ' w' (view h')∧CR (Forb A ρ' (view h')) ρ' w' v r
theorem callOK_con{E:Env}{call:CallF}:CallOK E call↔ ∀f args h r h',call f args h= .ok (r,h')→Con E f args h r h':=Iff.rfl
structure Ground (E:Env):Prop where
 hS:Smet E.P E.S
 hC:COK E
 hB:BOK E
 hmix:E.P.follows .mixedOrders=true
theorem CodeOK.of_run{X:SX}(g:Ground X.E)(hcall:CallOK X.E X.calls){N:Nat}{c:Code}{τ:Fr}{h:H}{x:AM.X}{τ':Fr}{h':H}(hr:(execT X N c τ h).run= .ok (x,τ',h')):CodeOK X.E N c τ h x τ' h':=
 fun A s0 nn rd ρ w a hrd hs=>exec_wp g.hS g.hC g.hB hcall g.hmix c rd nn τ h x τ' h' ρ w a hrd (execT_ok hr) hs
def X.inBlock(id:Nat):X→X
 | .exit i=>if i=id then .normal else .exit i
 |x=>x
inductive Rounds (E:Env) (N:Nat) (c:Code):Fr→H→X→Fr→H→Prop
 |done {τ h x τ' h'} (hc:CodeOK E N c τ h x τ' h') (hx:x≠ .normal):Rounds E N c τ h x τ' h'
 |more {τ h τ1 h1 x τ' h'} (hc:CodeOK E N c τ h .normal τ1 h1) (hr:Rounds E N c τ1 h1 x τ' h'):Rounds E N c τ h x τ' h'
end Go.Proofs.YtcocmlmligjjcaaGreatDoor.AM
namespace Go.Proofs.YtcocmlmligjjcaaGreatDoor.AM
set_option linter.unusedVariables false
set_option linter.unusedSimpArgs false
set_option linter.unusedSectionVars false
def Reach(E:Env)(A:Area)(N s0:Nat)(ρ0:Rho)(w0:World)(h0:H)(τ:Fr)(h:H)(a:Act)(w:World):Prop:=
 ∃ρ,Ext (Own ρ0 (view h0)) ρ0 w0 (Own ρ (view h)) ρ w∧St E A ρ w a τ (view h) N s0
def Tri(E:Env)(N:Nat)(h0:H)(c:Code)(τ:Fr)(h:H)(x:X)(τ':Fr)(h':H):Prop:=
 ∀(A:Area) (s0 nn:Nat) (rd:Option Nat) (ρ0:Rho) (w0 w:World) (a:Act),(rd=none∨noRF c=true)→(∀b,h0.length≤b→ρ0 b=none)→Reach E A N s0 ρ0 w0 h0 τ h a w→
  c.wpIn (fw rd) nn E.P (fun e a' w'=>e=x.exit'∧Reach E A N s0 ρ0 w0 h0 τ' h' a' w') a w
def Wk(E:Env)(N:Nat)(h0:H)(τ:Fr)(h:H)(τ':Fr)(h':H):Prop:=
 ∀(A:Area) (s0:Nat) (ρ0:Rho) (w0 w:World) (a:Act),(∀b,h0.length≤b→ρ0 b=none)→Reach E A N s0 ρ0 w0 h0 τ h a w→Reach E A N s0 ρ0 w0 h0 τ' h' a w
theorem Wk.refl{E:Env}{N:Nat}{h0:H}{τ:Fr}{h:H}:Wk E N h0 τ h τ h:=fun _ _ _ _ _ _ _ h=>h
section
variable {E:Env} {N:Nat} {h0:H}
theorem Tri.of_code{c:Code}{τ τ':Fr}{h h':H}{x:X}(hc:CodeOK E N c τ h x τ' h'):Tri E N h0 c τ h x τ' h':=by
 intro A s0 nn rd ρ0 w0 w a hrd hn ⟨ρ,hx,hs⟩
 refine wpIn_mono (hc A s0 nn rd ρ w a hrd hs) ?_
 rintro e a' w' ⟨rfl,ρ',hx',hs'⟩;exact⟨rfl,ρ',hx.trans hx',hs'⟩
theorem Tri.wk{c:Code}{τ τ1 τ2 τ3:Fr}{h h1 h2 h3:H}{x:X}(a:Wk E N h0 τ h τ1 h1)(hc:Tri E N h0 c τ1 h1 x τ2 h2)(b:Wk E N h0 τ2 h2 τ3 h3):Tri E N h0 c τ h x τ3 h3:=by
 intro A s0 nn rd ρ0 w0 w ac hrd hn hr
 refine wpIn_mono (hc A s0 nn rd ρ0 w0 w ac hrd hn (a A s0 ρ0 w0 w ac hn hr)) ?_
 rintro e a' w' ⟨rfl,hr'⟩;exact⟨rfl,b A s0 ρ0 w0 w' a' hn hr'⟩
theorem Tri.seq{c d:Code}{τ τ1 τ':Fr}{h h1 h':H}{x:X}(hc:Tri E N h0 c τ h .normal τ1 h1)(hd:Tri E N h0 d τ1 h1 x τ' h'):Tri E N h0 (.seq c d) τ h x τ' h':=by
 intro A s0 nn rd ρ0 w0 w a hrd hn hr;refine wpIn_seq (wpIn_mono (hc A s0 nn rd ρ0 w0 w a (hrd.imp (fun y=>y) fun h=>by simp only[noRF,Bool.and_eq_true]at h;exact h.1) hn hr) ?_);rintro e a1 w1 ⟨rfl,hr1⟩;exact hd A s0 nn rd ρ0 w0 w1 a1 (hrd.imp (fun y=>y) fun h=>by simp only[noRF,Bool.and_eq_true]at h;exact h.2) hn hr1
theorem Tri.seq_stop{c d:Code}{τ τ':Fr}{h h':H}{x:X}(hc:Tri E N h0 c τ h x τ' h')(hx:x≠ .normal):Tri E N h0 (.seq c d) τ h x τ' h':=by
 intro A s0 nn rd ρ0 w0 w a hrd hn hr;refine wpIn_seq (wpIn_mono (hc A s0 nn rd ρ0 w0 w a (hrd.imp (fun y=>y) fun h=>by simp only[noRF,Bool.and_eq_true]at h;exact h.1) hn hr) ?_);rintro e a1 w1 ⟨rfl,hr1⟩
 cases x with
 |normal=>exact absurd rfl hx
 |ret=>exact⟨rfl,hr1⟩
 |exit id=>exact⟨rfl,hr1⟩
theorem Tri.block{id:Nat}{c:Code}{τ τ':Fr}{h h':H}{x:X}(hc:Tri E N h0 c τ h x τ' h'):Tri E N h0 (.block id c) τ h (x.inBlock id) τ' h':=by
 intro A s0 nn rd ρ0 w0 w a hrd hn hr;refine wpIn_block (wpIn_mono (hc A s0 nn rd ρ0 w0 w a (hrd.imp (fun y=>y) fun h=>by simpa only [noRF]using h) hn hr) ?_);rintro e a1 w1 ⟨rfl,hr1⟩
 cases x with
 |normal=>exact⟨rfl,hr1⟩
 |ret=>exact⟨rfl,hr1⟩
 |exit i=>
  simp only[X.exit',Exit.inBlock,X.inBlock]
  by_cases hi:i=id
  ·rw[if_pos hi];rw[if_pos hi];exact⟨rfl,hr1⟩
  ·rw[if_neg hi];rw[if_neg hi];exact⟨rfl,hr1⟩
theorem Tri.cond{c d:Code}{o:Operand}{b:Bool}{τ τ':Fr}{h h':H}{x:X}(hb:ev E τ o= .ok (.bool b))(hc:Tri E N h0 (match b with|true=>c|false=>d) τ h x τ' h'):Tri E N h0 (.cond o c d) τ h x τ' h':=by
 intro A s0 nn rd ρ0 w0 w a hrd hn hr;obtain⟨ρ,hx,hs⟩:=hr;have hv:=toV_eq (x:= .bool b) (by rfl) (ev_cr hs.fr hs.hr.glob' hb)
 cases b with
 |true=>exact wpIn_cond_true hv (hc A s0 nn rd ρ0 w0 w a (hrd.imp (fun y=>y) fun h=>by simp only[noRF,Bool.and_eq_true]at h;exact h.1) hn ⟨ρ,hx,hs⟩)
 |false=>exact wpIn_cond_false hv (hc A s0 nn rd ρ0 w0 w a (hrd.imp (fun y=>y) fun h=>by simp only[noRF,Bool.and_eq_true]at h;exact h.2) hn ⟨ρ,hx,hs⟩)
inductive TRounds (E:Env) (N:Nat) (h0:H) (c:Code):Fr→H→X→Fr→H→Prop
 |done {τ h x τ' h'} (hc:Tri E N h0 c τ h x τ' h') (hx:x≠ .normal):TRounds E N h0 c τ h x τ' h'
 |more {τ h τ1 h1 x τ' h'} (hc:Tri E N h0 c τ h .normal τ1 h1) (hr:TRounds E N h0 c τ1 h1 x τ' h'):TRounds E N h0 c τ h x τ' h'
theorem Tri.loop{c:Code}{τ τ':Fr}{h h':H}{x:X}(hr:TRounds E N h0 c τ h x τ' h'):Tri E N h0 (.loop c) τ h x τ' h':=by
 intro A s0 nn rd ρ0 w0 w a hrd hn hre
 have hrd':rd=none∨noRF c=true:=hrd.imp (fun y=>y) fun h=>by simpa only [noRF]using h
 have key: ∀{τ1:Fr} {h1:H} {x:X} {τ':Fr} {h':H},TRounds E N h0 c τ1 h1 x τ' h'→ ∃n,∀(w1:World) (a1:Act),Reach E A N s0 ρ0 w0 h0 τ1 h1 a1 w1→
   Code.roundsIn (fw rd) nn E.P c (fun e a' w'=>e=x.exit'∧Reach E A N s0 ρ0 w0 h0 τ' h' a' w') n a1 w1:=by
  clear hr hre;intro τ1 h1 x τ' h' hr1
  induction hr1 with
  |done hc hx=>
   rename_i τ1 h1 x τ' h';refine⟨1,fun w1 a1 hs1=>?_⟩;rw[roundsIn_succ]
   refine wpIn_mono (hc A s0 nn rd ρ0 w0 w1 a1 hrd' hn hs1) ?_
   rintro e a2 w2 ⟨rfl,hr2⟩
   cases x with
   |normal=>exact absurd rfl hx
   |ret=>exact⟨rfl,hr2⟩
   |exit id=>exact⟨rfl,hr2⟩
  |more hc hr2 ih=>
   obtain⟨n,ih⟩:=ih;refine⟨n+1,fun w1 a1 hs1=>?_⟩;rw[roundsIn_succ]
   refine wpIn_mono (hc A s0 nn rd ρ0 w0 w1 a1 hrd' hn hs1) ?_
   rintro e a2 w2 ⟨rfl,hr3⟩;exact ih w2 a2 hr3
 obtain⟨n,hn'⟩:=key hr;exact wpIn_loop_rounds n (hn' w a hre)
end
def sub:Code→List Nat→Code
 |c,[]=>c
 | .seq a b,i::p=>match i with|0=>sub a p|_=>sub b p
 | .cond _ a b,i::p=>match i with|0=>sub a p|_=>sub b p
 | .block _ b,_::p=>sub b p
 | .loop b,_::p=>sub b p
 |_,_::_=> .skip
theorem sub_nil(c:Code):sub c []=c:=by cases c<;>rfl
theorem sub_append: ∀(p q:List Nat) (c:Code),sub c (p++q)=sub (sub c p) q
 | [],q,c=>by rw[List.nil_append,sub_nil]
 |i::p,q,c=>by
  have hskip:sub .skip q= .skip:=by cases q<;>rfl
  cases c with
  |seq a b=>simp only[List.cons_append,sub];cases i<;>exact sub_append p q _
  |cond o a b=>simp only[List.cons_append,sub];cases i<;>exact sub_append p q _
  |block id b=>simp only[List.cons_append,sub];exact sub_append p q _
  |loop b=>simp only[List.cons_append,sub];exact sub_append p q _
  |_=>exact hskip.symm
abbrev Known:=List Nat→Option (Fr→H→T (X×Fr×H))
noncomputable def execK(X:SX)(K:Known)(N:Nat):Code→List Nat→Fr→H→T (AM.X×Fr×H)
 | .skip,_,τ,h=> .leaf (.normal,τ,h)
 | .label _,_,τ,h=> .leaf (.normal,τ,h)
 | .region _ ops draw,_,τ,h=>(regionT X N ops draw τ h).bind fun(τ,h)=> .leaf (.normal,τ,h)
 | .seq a b,p,τ,h=>(execK X K N a (p++ [0]) τ h).bind fun(x,τ,h)=>match x with
   | .normal=>execK X K N b (p++ [1]) τ h
   |x=> .leaf (x,τ,h)
 | .cond c a b,p,τ,h=>(ev X.E τ c).t.bind fun
   | .bool true=>execK X K N a (p++ [0]) τ h
   | .bool false=>execK X K N b (p++ [1]) τ h
   |_=> .fail
 | .block id b,p,τ,h=>match K p with
   |some k=>k τ h
   |none=>(execK X K N b (p++ [0]) τ h).bind fun(x,τ,h)=> .leaf (x.inBlock id,τ,h)
 | .loop b,p,τ,h=>match K p with
   |some k=>k τ h
   |none=>iterT (execK X K N b (p++ [0])) X.E.M τ h
 | .exit i,_,τ,h=> .leaf (.exit i,τ,h)
 | .ret,_,τ,h=> .leaf (.ret,τ,h)
 |_,_,_,_=> .fail
def KOK(E:Env)(N:Nat)(h0:H)(body:Code)(K:Known):Prop:= ∀p k,K p=some k→ ∀τ h x τ' h',(k τ h).run= .ok (x,τ',h')→Tri E N h0 (sub body p) τ h x τ' h'
theorem KOK.none{E:Env}{N:Nat}{h0:H}{body:Code}:KOK E N h0 body (fun _=>none):=fun p k h=>by cases h
theorem execK_ok{X:SX}(g:Ground X.E)(hcall:CallOK X.E X.calls){K:Known}{N:Nat}{h0:H}{body:Code}(hK:KOK X.E N h0 body K): ∀{c:Code} {p:List Nat} {τ:Fr} {h:H} {x:AM.X} {τ':Fr} {h':H},sub body p=c→(execK X K N c p τ h).run= .ok (x,τ',h')→Tri X.E N h0 c τ h x τ' h':=by
 intro c
 induction c with
 |skip=>intro p τ h x τ' h' hp hr;exact Tri.of_code (.of_run g hcall hr)
 |label=>intro p τ h x τ' h' hp hr;exact Tri.of_code (.of_run g hcall hr)
 |region id ops draw=>intro p τ h x τ' h' hp hr;exact Tri.of_code (.of_run g hcall hr)
 |seq a b iha ihb=>
  intro p τ h x τ' h' hp hr
  have hq:sub body (p++ [0])=a:=by rw[sub_append,hp];simp[sub]
  have h1:sub body (p++ [1])=b:=by rw[sub_append,hp];simp[sub]
  obtain⟨⟨x1,τ1,h1'⟩,h2,hr⟩:=T.bind_ok hr
  cases x1 with
  |normal=>exact(iha hq h2).seq (ihb h1 hr)
  |ret=>cases hr;exact(iha hq h2).seq_stop nofun
  |exit i=>cases hr;exact(iha hq h2).seq_stop nofun
 |cond o a b iha ihb=>
  intro p τ h x τ' h' hp hr
  have hq:sub body (p++ [0])=a:=by rw[sub_append,hp];simp[sub]
  have h1:sub body (p++ [1])=b:=by rw[sub_append,hp];simp[sub]
  obtain⟨v,h2,hr⟩:=R.tbind_ok hr;split at hr
  ·exact .cond (b:=true) h2 (iha hq hr)
  ·exact .cond (b:=false) h2 (ihb h1 hr)
  ·cases hr
 |block id b ih=>
  intro p τ h x τ' h' hp hr;simp only[execK]at hr;split at hr
  ·rename_i k hk
   have:=hK p k hk τ h x τ' h' hr
   rwa [hp]at this
  ·have hq:sub body (p++ [0])=b:=by rw[sub_append,hp];simp[sub]
   obtain⟨⟨x1,τ1,h1⟩,h2,hr⟩:=T.bind_ok hr;cases hr;exact(ih hq h2).block
 |loop b ih=>
  intro p τ h x τ' h' hp hr;simp only[execK]at hr;split at hr
  ·rename_i k hk
   have:=hK p k hk τ h x τ' h' hr
   rwa [hp]at this
  ·have hq:sub body (p++ [0])=b:=by rw[sub_append,hp];simp[sub]
   refine Tri.loop ?_
   have key: ∀(n:Nat) (τ:Fr) (h:H),(iterT (execK X K N b (p++ [0])) n τ h).run= .ok (x,τ',h')→TRounds X.E N h0 b τ h x τ' h':=by
    intro n
    induction n with
    |zero=>intro τ h hr;cases hr
    |succ n ihn=>
     intro τ h hr;obtain⟨⟨x1,τ1,h1⟩,h2,hr⟩:=T.bind_ok hr
     cases x1 with
     |normal=>exact .more (ih hq h2) (ihn τ1 h1 hr)
     |ret=>cases hr;exact .done (ih hq h2) nofun
     |exit i=>cases hr;exact .done (ih hq h2) nofun
   exact key _ _ _ hr
 |exit i=>intro p τ h x τ' h' hp hr;exact Tri.of_code (.of_run g hcall hr)
 |ret=>intro p τ h x τ' h' hp hr;exact Tri.of_code (.of_run g hcall hr)
 |_=>intro p τ h x τ' h' hp hr;cases hr
end Go.Proofs.YtcocmlmligjjcaaGreatDoor.AM
