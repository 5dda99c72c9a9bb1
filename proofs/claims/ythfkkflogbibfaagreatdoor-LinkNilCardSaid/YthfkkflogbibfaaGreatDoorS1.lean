/- The symbolic machine: the abstract machine's code run on trees whose leaves are terms; where an answer hangs on a term, both ways are gone. Definitions. -/
import Derived.Test.YthfkkflogbibfaaGreatDoorA25
namespace Go.Proofs.YthfkkflogbibfaaGreatDoor.AM
set_option linter.unusedVariables false
set_option linter.unusedSimpArgs false
set_option linter.unusedSectionVars false

/-- what comes of terms: a tree of the questions that are asked of them. -/
inductive T (α : Type) where
  | leaf (a : α)
  | fail
  | br (c : Bool) (t e : T α)
def T.bind {α β : Type} : T α → (α → T β) → T β
  | .leaf a, f => f a
  | .fail, _ => .fail
  | .br c t e, f => .br c (t.bind f) (e.bind f)
def T.run {α : Type} : T α → R α
  | .leaf a => .ok a
  | .fail => .no ""
  | .br c t e => match c with
    | true => t.run
    | false => e.run
def R.t {α : Type} : R α → T α
  | .ok a => .leaf a
  | .no _ => .fail
/-- which slot asks. -/
def mark (d : Nat) (c : Bool) : Bool := c
/-- what should hold. -/
def chk {α : Type} (con : Option Nat) (c : Bool) (t : T α) : T α := match con with
  | none => (match c with | true => t | false => .fail)
  | some d => .br (mark d c) t .fail
/-- the byte at a place of a text. -/
def byteAt (s : ByteArray) (i : Nat) : UInt8 := s.data.toList.getD i 0
/-- which of two. -/
def brc {α : Type} (con : Option Nat) (c : Bool) (t e : T α) : T α := match con with
  | none => (match c with | true => t | false => e)
  | some d => .br (mark d c) t e

structure SX where
  E : Env
  f : FuncId
  /-- slots whose operation's questions have answers without terms. -/
  con : Nat → Bool
  /-- slots of a truth that is asked for at once. -/
  split : Nat → Bool
  call : FuncId → List AV → H → T (AV × H)

/-- does an operation ask? -/
def conOf (X : SX) (o : Oper) : Option Nat := match o.dst with
  | some d => (match X.con d with | true => none | false => some d)
  | none => some 0
def AV.toI : AV → Int
  | .int _ n => n
  | _ => 0
def AV.toS : AV → ByteArray
  | .str s => s
  | _ => .empty
def AV.toB : AV → Bool
  | .bool b => b
  | _ => false
def AV.toL : AV → List AV
  | .lst _ l _ => l
  | _ => []

/-- the types of a type's cells. -/
def cellTs (P : Program) : Nat → TypeId → List TypeId
  | 0, _ => []
  | d + 1, t => match P.underlying t with
    | some (.struct fs) => fs.toList.foldr (fun f acc => cellTs P d f.type ++ acc) []
    | some (.array n e) => (List.replicate n (cellTs P d e)).flatten
    | _ => [t]
def shape1 (P : Program) (t : TypeId) (v : AV) : AV := match P.underlying t with
  | some (.int k) => .int k v.toI
  | some .string => .str v.toS
  | some .bool => .bool v.toB
  | some (.slice e) => .lst (P.cellsOf e) v.toL .open_
  | _ => v
def fits1 (P : Program) (t : TypeId) (v : AV) : Bool := match P.underlying t with
  | some (.int k) => (match v with | .int k' _ => k == k' | _ => false)
  | some .string => (match v with | .str _ => true | _ => false)
  | some .bool => (match v with | .bool _ => true | _ => false)
  | some (.slice e) => (match v with | .lst sz _ .open_ => sz == P.cellsOf e | _ => false)
  | _ => true
/-- some cells of a row, each as its type says. -/
def shapes (P : Program) (cs : List AV) : Nat → List TypeId → List AV
  | _, [] => []
  | k, t :: ts => shape1 P t (cs.getD k undef) :: shapes P cs (k + 1) ts
def fitss (P : Program) (cs : List AV) : Nat → List TypeId → Bool
  | _, [] => true
  | k, t :: ts => fits1 P t (cs.getD k undef) && fitss P cs (k + 1) ts
/-- the cells of an element as its type says. -/
def shapeC (P : Program) (t : TypeId) (v : AV) : List AV := shapes P v.cells 0 (cellTs P 99 t)
def fitsC (P : Program) (t : TypeId) (v : AV) : Bool := v.cells.length == (cellTs P 99 t).length && fitss P v.cells 0 (cellTs P 99 t)

def boundT (con : Option Nat) : Option AV → Nat → T Nat
  | none, d => .leaf d
  | some v, _ => (intA v).t.bind fun n => chk con (decide (0 ≤ n)) (.leaf n.toNat)

def cutT (con : Option Nat) (x : AV) (l h n : Nat) (cut : Bool) : T AV :=
  match x with
  | .nils => .leaf .nils
  | .lst sz xs tl => (match cut, tl with
    | true, _ => .leaf (.lst sz ((xs.drop l).take (h - l)) .clip)
    | false, .open_ => .leaf (.lst sz ((xs.drop l).take (h - l)) .open_)
    | false, tl => brc con (decide (h = n)) (.leaf (.lst sz ((xs.drop l).take (h - l)) tl)) (.leaf (.lst sz ((xs.drop l).take (h - l)) .open_)))
  | _ => (cutA x l h n cut).t

def sliceT (P : Program) (con : Option Nat) (t : TypeId) (x : AV) (lo hi mx : Option AV) : T AV :=
  (under P t).t.bind fun
  | .string => match x with
    | .str s => (boundT con lo 0).bind fun l => (boundT con hi s.size).bind fun h => match mx with
      | none => chk con (decide (l ≤ h) && decide (h ≤ s.size)) (.leaf (.str (s.extract l h)))
      | some _ => .fail
    | _ => .fail
  | .slice e => (size P e).t.bind fun sz => (lenA x).t.bind fun n => (boundT con lo 0).bind fun l => (boundT con hi n).bind fun h => (match mx with
      | none => T.leaf h
      | some _ => boundT con mx h).bind fun m => match mx, hi with
      | some _, none => .fail
      | _, _ => match szA x sz with
        | true => chk con (decide (l ≤ h) && decide (h ≤ n) && decide (m = h)) (cutT con x l h n mx.isSome)
        | false => .fail
  | _ => (sliceA P t x lo hi mx).t

/-- the place of x[i]. -/
def indexT (P : Program) (con : Option Nat) (t : TypeId) (x : AV) (i : Int) : T AV :=
  match con with
  | none => (indexA P t x i).t
  | some q => (under P t).t.bind fun
    | .slice e => (size P e).t.bind fun s => match szA x s with
      | true => (match x with
        | .lst _ l _ => .br (mark q <| decide (0 ≤ i) && decide (i < l.length) && fitsC P e (l.getD i.toNat undef)) (.leaf (.fp (shapeC P e (l.getD i.toNat undef)) 0)) .fail
        | .sl b off n sz _ => .br (mark q <| decide (0 ≤ i) && decide (i < n)) (.leaf (.eptr b (off + i.toNat) sz 0)) .fail
        | .vsl b off n _ => .br (mark q <| decide (0 ≤ i) && decide (i < n)) (.leaf (.ptr b (off + i.toNat))) .fail
        | _ => .fail)
      | false => .fail
    | .array n e => (size P e).t.bind fun s => match x with
        | .ptr b off => .br (mark q <| decide (0 ≤ i) && decide (i < n)) (.leaf (.ptr b (off + i.toNat * s))) .fail
        | .eptr b j sz off => .br (mark q <| decide (0 ≤ i) && decide (i < n)) (.leaf (.eptr b j sz (off + i.toNat * s))) .fail
        | _ => .fail
    | _ => .fail

def binT (P : Program) (S : TypeId → Bool) (con : Option Nat) (op : BinOp) (t : TypeId) (x y : AV) : T AV :=
  match x, y with
  | .int k a, .int k' b => (match decide (k = k') with
    | true => (match op with
      | .add => .leaf (.int k (k.wrap (a + b)))
      | .sub => .leaf (.int k (k.wrap (a - b)))
      | .mul => .leaf (.int k (k.wrap (a * b)))
      | .quo => chk con (!decide (b = 0)) (.leaf (.int k (k.wrap (a.tdiv b))))
      | .rem => chk con (!decide (b = 0)) (.leaf (.int k (a.tmod b)))
      | .eql => .leaf (.bool (decide (a = b)))
      | .neq => .leaf (.bool (!decide (a = b)))
      | .lss => .leaf (.bool (decide (a < b)))
      | .leq => .leaf (.bool (decide (a ≤ b)))
      | .gtr => .leaf (.bool (decide (b < a)))
      | .geq => .leaf (.bool (decide (b ≤ a)))
      | _ => (binA P S op t x y).t)
    | false => (binA P S op t x y).t)
  | .str a, .str b => (match op with
    | .add => chk con (decide (a.size + b.size ≤ 9223372036854775807)) (.leaf (.str (a ++ b)))
    | .eql => .leaf (.bool (decide (a = b)))
    | .neq => .leaf (.bool (!decide (a = b)))
    | .lss => .leaf (.bool (Op.bytesLess a.toList b.toList))
    | _ => (binA P S op t x y).t)
  | _, _ => (binA P S op t x y).t

def pureT (X : SX) (τ : Fr) (o : Oper) : T AV :=
  let E := X.E
  let con := conOf X o
  match o.op with
  | .binOp op t x y _ => (ev E τ x).t.bind fun a => (ev E τ y).t.bind fun b => binT E.P E.S con op t a b
  | .unOp op _ x => (ev E τ x).t.bind fun a => match op, a with
    | .not, .bool b => .leaf (.bool (!b))
    | .neg, .int k n => .leaf (.int k (k.wrap (0 - n)))
    | _, _ => (pureA E τ o).t
  | .slice t x lo hi mx => (ev E τ x).t.bind fun a => (evo E τ lo).t.bind fun lo => (evo E τ hi).t.bind fun hi => (evo E τ mx).t.bind fun mx => sliceT E.P con t a lo hi mx
  | .indexAddr t x ix => (ev E τ x).t.bind fun x => (ev E τ ix).t.bind fun i => (intA i).t.bind fun i => indexT E.P con t x i
  | .index t x ix => (match con with
    | none => (pureA E τ o).t
    | some q => (ev E τ x).t.bind fun x => (ev E τ ix).t.bind fun i => match x, i with
      | .str s, .int k n => (under E.P t).t.bind fun
        | .string => .br (mark q <| decide (0 ≤ n) && decide (n < s.size)) (.leaf (.int .u8 (byteAt s n.toNat).toNat)) .fail
        | _ => .fail
      | _, _ => .fail)
  | _ => (pureA E τ o).t

/-- are some values bytes? -/
def isBytes (l : List AV) : Bool := l.all fun v => match v with
  | .int .u8 _ => true
  | _ => false
def bytesOf (l : List AV) : ByteArray := ⟨(l.map fun v => UInt8.ofNat v.toI.toNat).toArray⟩

/-- is it a type of many cells? -/
def aggB (P : Program) (t : TypeId) : Bool := match aggT P t with
  | .ok b => b
  | .no _ => true
def findV (P : Program) (S : TypeId → Bool) (kt : TypeId) (k : AV) (es : List (AV × AV)) : AV := match find (eqT P S 99 kt) k es with
  | some (some (_, v)) => v
  | _ => undef
def findB (P : Program) (S : TypeId → Bool) (kt : TypeId) (k : AV) (es : List (AV × AV)) : Bool := match find (eqT P S 99 kt) k es with
  | some (some _) => true
  | _ => false
def findS (P : Program) (S : TypeId → Bool) (kt : TypeId) (k : AV) (es : List (AV × AV)) : Bool := (find (eqT P S 99 kt) k es).isSome
def putM (P : Program) (S : TypeId → Bool) (kt : TypeId) (k v : AV) (es : List (AV × AV)) : List (AV × AV) := match find (eqT P S 99 kt) k es with
  | some (some (i, _)) => es.set i (k, v)
  | _ => es ++ [(k, v)]
/-- what may be put. -/
def putOk (P : Program) (S : TypeId → Bool) (kt : TypeId) (k : AV) (es : List (AV × AV)) : Bool := match find (eqT P S 99 kt) k es with
  | some (some (i, _)) => (match es[i]? with | some e => plainEq k e.1 | none => false)
  | some none => true
  | none => false

def readT (X : SX) (τ : Fr) (h : H) (o : Oper) : T AV :=
  let E := X.E
  let con := conOf X o
  match con with
  | none => (readA E τ h o).t
  | some q => match o.op with
    | .load t a => (ev E τ a).t.bind fun p => (match p with
      | .eptr b i sz off => (match h[b]? with
        | some (.arr sz' l) => (match decide (sz = sz') with
          | true => (aggT E.P t).t.bind fun
            | false => .br (mark q <| decide (i < l.length) && decide (off < (l.getD i undef).cells.length) && fits1 E.P t ((l.getD i undef).cells.getD off undef)) (.leaf (shape1 E.P t ((l.getD i undef).cells.getD off undef))) .fail
            | true => (size E.P t).t.bind fun s => (match decide ((cellTs E.P 99 t).length = s) with
              | true => .br (mark q <| decide (i < l.length) && decide (off + s ≤ (l.getD i undef).cells.length) && fitss E.P (l.getD i undef).cells off (cellTs E.P 99 t)) (.leaf (.agg (shapes E.P (l.getD i undef).cells off (cellTs E.P 99 t)))) .fail
              | false => .fail)
          | false => .fail)
        | _ => .fail)
      | _ => (readA E τ h o).t)
    | .convert src dst x => (ev E τ x).t.bind fun a => (under E.P src).t.bind fun us => (under E.P dst).t.bind fun ud => match us, ud with
      | .slice e, .string => (under E.P e).t.bind fun
        | .int .u8 => (size E.P e).t.bind fun s => (match szA a s && s == 1 with
          | true => (elemsA h a).t.bind fun l => .br (mark q <| isBytes l) (.leaf (.str (bytesOf l))) .fail
          | false => .fail)
        | _ => .fail
      | _, _ => .fail
    | .lookup t m k ok => (ev E τ m).t.bind fun m => (ev E τ k).t.bind fun k => (under E.P t).t.bind fun
      | .map kt e => (mapOf h m).t.bind fun es => (zero E.P e).t.bind fun z => (match keyA E.P 99 kt k with
        | true => (match ok with
          | true => brc (some q) (findB E.P E.S kt k es) (chk (some q) (findS E.P E.S kt k es && (!aggB E.P e && fits1 E.P e (findV E.P E.S kt k es))) (.leaf (.tup [shape1 E.P e (findV E.P E.S kt k es), .bool true]))) (chk (some q) (findS E.P E.S kt k es) (.leaf (.tup [z, .bool false])))
          | false => brc (some q) (findB E.P E.S kt k es) (chk (some q) (findS E.P E.S kt k es && (!aggB E.P e && fits1 E.P e (findV E.P E.S kt k es))) (.leaf (shape1 E.P e (findV E.P E.S kt k es)))) (chk (some q) (findS E.P E.S kt k es) (.leaf z)))
        | false => .fail)
      | _ => .fail
    | _ => (readA E τ h o).t

def elemsT (con : Option Nat) (h : H) (x : AV) : T (List AV) := match con, x with
  | some q, .sl b off len sz _ => (match h[b]? with
    | some (.arr sz' l) => (match decide (sz = sz') with
      | true => .br (mark q <| decide (off + len ≤ l.length)) (.leaf ((l.drop off).take len)) .fail
      | false => .fail)
    | _ => .fail)
  | _, x => (elemsA h x).t
def newsT (P : Program) (con : Option Nat) (sz : Nat) (xt : TypeId) (x : AV) (h : H) : T (List AV) :=
  (under P xt).t.bind fun
  | .slice _ => (match szA x sz with
    | true => elemsT con h x
    | false => .fail)
  | _ => (newsA P sz xt x h).t

def allocT (X : SX) (τ : Fr) (id : Nat) (o : Oper) : T (AV × Blk) :=
  let E := X.E
  let con := conOf X o
  match con with
  | none => (allocA E X.f τ id o).t
  | some q => match o.op with
    | .makeSlice t l c => (under E.P t).t.bind fun
      | .slice e => (info E.P e).t.bind fun i => (zero E.P e).t.bind fun z => (ev E τ l).t.bind fun l => (ev E τ c).t.bind fun c => (intA l).t.bind fun n => (intA c).t.bind fun m =>
          (match z.cells.length == i.size with
          | true => .br (mark q <| decide (0 ≤ n) && decide (n ≤ m) && decide (m * i.bytes ≤ 140737488355328) && decide (m ≤ 140737488355328)) (.leaf (newSl E X.f o.dst id i.size (List.replicate n.toNat z))) .fail
          | false => .fail)
      | _ => .fail
    | _ => (allocA E X.f τ id o).t

def storeT (P : Program) (h : H) (t : TypeId) (v : AV) (p : AV) : T H :=
  match p with
  | .eptr b i sz off => (match h[b]? with
    | some (.arr sz' l) => (size P t).t.bind fun s => (match v.cells.length == s && (v.cells.all AV.leaf && sz == sz') with
      | true => .br (decide (i < l.length) && decide (off + s ≤ (l.getD i undef).cells.length)) (.leaf (h.set b (.arr sz' (l.set i (mk (setCells (l.getD i undef).cells off v.cells) (l.getD i undef)))))) .fail
      | false => .fail)
    | _ => .fail)
  | _ => (storeA P h t v p).t

def appendT (X : SX) (con : Option Nat) (dst : Option Nat) (st xt : TypeId) (s x : AV) (h : H) : T (AV × H) :=
  let E := X.E
  (under E.P st).t.bind fun
  | .slice e => (info E.P e).t.bind fun i => (zero E.P e).t.bind fun z => (newsT E.P con i.size xt x h).bind fun new => (lenA s).t.bind fun n =>
    (match szA s i.size && (decide (0 < i.bytes) && z.cells.length == i.size) with
    | true => chk (some (dst.getD 0)) (decide ((n + new.length) * i.bytes ≤ 140000000000000) && decide (n + new.length ≤ 140000000000000) && new.all fun y => y.cells.all AV.leaf) (match s with
      | .nils => brc con new.isEmpty (.leaf (.nils, h)) (.leaf ((newSl E X.f dst h.length i.size new).1, h ++ [(newSl E X.f dst h.length i.size new).2]))
      | .lst sz old .clip => brc con new.isEmpty (.leaf (.lst sz old .clip, h)) (.leaf ((newSl E X.f dst h.length sz (old ++ new)).1, h ++ [(newSl E X.f dst h.length sz (old ++ new)).2]))
      | .lst sz old (.own t) => (match h[t]? with
        | some .tail => .leaf (.lst sz (old ++ new) (.own h.length), h.set t .dead ++ [.tail])
        | _ => .fail)
      | .sl b off len sz clip => (elemsT con h (.sl b off len sz clip)).bind fun old => (match clip with
        | true => brc con new.isEmpty (.leaf (.sl b off len sz clip, h)) (.leaf ((newSl E X.f dst h.length sz (old ++ new)).1, h ++ [(newSl E X.f dst h.length sz (old ++ new)).2]))
        | false => (match off with
          | 0 => .leaf (.sl h.length 0 (old ++ new).length sz false, h.set b .dead ++ [.arr sz (old ++ new)])
          | _ + 1 => .fail))
      | _ => .fail)
    | false => .fail)
  | _ => .fail

def heavyT (X : SX) (τ : Fr) (h : H) (o : Oper) : T (AV × H) :=
  let E := X.E
  let con := conOf X o
  match o.op with
  | .store t a x => (ev E τ a).t.bind fun p => (ev E τ x).t.bind fun v => (storeT E.P h t v p).bind fun h' => .leaf (undef, h')
  | .mapUpdate t m k x | .insert t m k x => (ev E τ m).t.bind fun m => (ev E τ k).t.bind fun k => (ev E τ x).t.bind fun v => (under E.P t).t.bind fun
    | .map kt _ => match m with
      | .map b => match h[b]? with
        | some (.map es) => (match keyA E.P 99 kt k with
          | true => chk (some 0) (putOk E.P E.S kt k es) (.leaf (undef, h.set b (.map (putM E.P E.S kt k v es))))
          | false => .fail)
        | _ => .fail
      | _ => .fail
    | _ => .fail
  | .call { callee := .builtin .append, args, argTypes } => (evs E τ args.toList).t.bind fun
    | [s, x] => (lift "append" argTypes[0]?).t.bind fun t => (lift "append" argTypes[1]?).t.bind fun u => appendT X con o.dst t u s x h
    | _ => .fail
  | _ => (heavyA E X.f τ h o).t

def callT (X : SX) (τ : Fr) (h : H) (o : Oper) : T (AV × H) :=
  let E := X.E
  match o.op with
  | .call { callee := .value g, args, .. } => (ev E τ g).t.bind fun
    | .clo g first caps => (evs E τ args.toList).t.bind fun vs => match E.C g (first ++ vs ++ caps) with
      | some r => .leaf (thaw h r)
      | none => X.call g (first ++ vs ++ caps) h
    | _ => .fail
  | _ => .fail

def opT (X : SX) (τ : Fr) (h : H) (o : Oper) : T (AV × H) :=
  match kindOf X.E o.op with
  | .pure => (pureT X τ o).bind fun v => .leaf (v, h)
  | .read => (readT X τ h o).bind fun v => .leaf (v, h)
  | .light => (lightA X.E τ o).t.bind fun v => .leaf (v, h)
  | .alloc => (allocT X τ h.length o).bind fun (v, b) => .leaf (v, h ++ [b])
  | .heavy => heavyT X τ h o
  | .call => callT X τ h o

def putT {α : Type} (X : SX) (N : Nat) (τ : Fr) (dst : Option Nat) (v : AV) (h : α) : T (Fr × α) :=
  match dst with
  | none => .leaf (τ, h)
  | some d => match decide (d < N) with
    | true => (match X.split d with
      | true => (match v with
        | .bool b => .br (mark d b) (.leaf (upd τ d (.bool true), h)) (.leaf (upd τ d (.bool false), h))
        | _ => .fail)
      | false => .leaf (upd τ d v, h))
    | false => .fail

def stepT (X : SX) (N : Nat) (ops : Array Oper) (τ : Fr) (h : H) (o : Oper) : T (Fr × H) :=
  match gtop ops τ o with
  | true => .fail
  | false => match wantA ops τ o with
    | true => (opT X τ h o).bind fun (v, h') => putT X N τ o.dst v h'
    | false => (putA N τ o.dst undef).t.bind fun τ' => .leaf (τ', h)

def opsT (X : SX) (N : Nat) (ops : Array Oper) : List Oper → Fr → H → T (Fr × H)
  | [], τ, h => .leaf (τ, h)
  | o :: rest, τ, h => (stepT X N ops τ h o).bind fun (τ', h') => opsT X N ops rest τ' h'

def stepDT (X : SX) (N : Nat) (ops : Array Oper) (id : Nat) (τ : Fr) (h : H) (o : Oper) : T (Fr × H) :=
  match isAl X.E o with
  | true => (match gtop ops τ o with
    | true => .fail
    | false => (match wantA ops τ o with
      | true => (match h[id]? with
        | some .hole => (allocT X τ id o).bind fun (v, b) => putT X N τ o.dst v (h.set id b)
        | _ => .fail)
      | false => (putA N τ o.dst undef).t.bind fun τ' => .leaf (τ', h)))
  | false => stepT X N ops τ h o
def traceT (X : SX) (N : Nat) (ops : Array Oper) : List Oper → Nat → Fr → H → T (List (Fr × H) × (Fr × H))
  | [], _, τ, h => .leaf ([], (τ, h))
  | o :: rest, id, τ, h => (stepDT X N ops id τ h o).bind fun (τ', h') => (traceT X N ops rest (if isAl X.E o then id + 1 else id) τ' h').bind fun (l, r) => .leaf ((τ, h) :: l, r)

/-- the blocks that an operation changes. -/
def touchA (E : Env) (τ : Fr) (o : Oper) : Option (List Nat) :=
  let one := fun (x : Operand) => match ev E τ x with
    | .ok v => (match depOf v with | some b => some [b] | none => some [])
    | .no _ => none
  match o.op with
  | .store _ a _ => one a
  | .mapUpdate _ m _ _ | .insert _ m _ _ => one m
  | .call { callee := .builtin .append, args, .. } => (match args.toList with
    | [s, _] => (match ev E τ s with
      | .ok .nils => some []
      | .ok (.lst _ _ .clip) => some []
      | .ok (.lst _ _ (.own t)) => some [t]
      | .ok (.sl b _ _ _ _) => some [b]
      | _ => none)
    | _ => none)
  | .alloc _ | .box .. | .buildSlice .. | .makeSlice .. | .makeMap .. | .convert .. => some []
  | _ => none
def drawDT (E : Env) (ops : Array Oper) (base : Nat) (tr : List (Fr × H)) (lt : Fr) (lh : H) (ps : List (Nat × Nat)) : Bool :=
  ps.all fun (j, i) => match readDep E (frameAt tr lt j) (opAt ops j) with
    | some b => decide (b < (heapAt tr lh i).length) && (match (if isAl E (opAt ops i) then some [idAt E ops base i] else touchA E (frameAt tr lt i) (opAt ops i)) with
      | some l => !l.contains b
      | none => false)
    | none => true

def regionT (X : SX) (N : Nat) (ops : Array Oper) (draw : Bool) (τ : Fr) (h : H) : T (Fr × H) :=
  match draw with
  | false => opsT X N ops ops.toList τ h
  | true => (traceT X N ops ops.toList h.length τ (h ++ List.replicate (alsOf X.E ops.toList) .hole)).bind fun (tr, (τ', h')) =>
    match drawS X.E ops (masksA ops.toList []) && (drawDT X.E ops h.length tr τ' h' (pairsA X.E ops (masksA ops.toList [])) && (drawL X.E ops tr τ' h.length && drawH X.E ops tr h' h.length)) with
    | true => .leaf (τ', h')
    | false => .fail

def iterT (g : Fr → H → T (AM.X × Fr × H)) : Nat → Fr → H → T (AM.X × Fr × H)
  | 0, _, _ => .fail
  | n + 1, τ, h => (g τ h).bind fun (x, τ, h) => match x with
    | .normal => iterT g n τ h
    | x => .leaf (x, τ, h)

def execT (X : SX) (N : Nat) : Code → Fr → H → T (AM.X × Fr × H)
  | .skip, τ, h => .leaf (.normal, τ, h)
  | .label _, τ, h => .leaf (.normal, τ, h)
  | .region _ ops draw, τ, h => (regionT X N ops draw τ h).bind fun (τ, h) => .leaf (.normal, τ, h)
  | .seq a b, τ, h => (execT X N a τ h).bind fun (x, τ, h) => match x with
    | .normal => execT X N b τ h
    | x => .leaf (x, τ, h)
  | .cond c a b, τ, h => (ev X.E τ c).t.bind fun
    | .bool true => execT X N a τ h
    | .bool false => execT X N b τ h
    | _ => .fail
  | .block id b, τ, h => (execT X N b τ h).bind fun (x, τ, h) => match x with
    | .exit i => .leaf (if i = id then .normal else .exit i, τ, h)
    | x => .leaf (x, τ, h)
  | .loop b, τ, h => iterT (execT X N b) X.E.M τ h
  | .exit i, τ, h => .leaf (.exit i, τ, h)
  | .ret, τ, h => .leaf (.ret, τ, h)
  | _, _, _ => .fail

/-- what calls come to. -/
def SX.calls (X : SX) : CallF := fun f args h => (X.call f args h).run
end Go.Proofs.YthfkkflogbibfaaGreatDoor.AM
