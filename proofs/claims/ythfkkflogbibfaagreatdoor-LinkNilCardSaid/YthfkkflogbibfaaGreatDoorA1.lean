/- The abstract machine: a Go program's code run on trees instead of memory cells: definitions. -/
import Derived.Calls
import Derived.Orders
namespace Go.Proofs.YthfkkflogbibfaaGreatDoor.AM
set_option linter.unusedVariables false
set_option linter.unusedSimpArgs false
set_option linter.unusedSectionVars false

/-- whether more may be appended behind a slice's elements: never in place; not known; by whoever holds the token. -/
inductive Tl where
  | clip
  | open_
  | own (t : Nat)
  deriving DecidableEq, Inhabited

inductive AV where
  | bool (b : Bool)
  | int (k : IntKind) (n : Int)
  | str (s : ByteArray)
  | nilp
  | ptr (b off : Nat)
  | eptr (b i sz off : Nat)
  | fp (cs : List AV) (off : Nat)
  | nils
  | sl (b off len sz : Nat) (clip : Bool)
  | vsl (b off len : Nat) (clip : Bool)
  | lst (sz : Nat) (l : List AV) (tl : Tl)
  | fsl (sz : Nat) (l : List AV)
  | nilm
  | map (b : Nat)
  | nilf
  | clo (f : Nat) (first caps : List AV)
  | nili
  | agg (cs : List AV)
  | tup (vs : List AV)
  deriving Inhabited

inductive Blk where
  | var (cs : List AV)
  | arr (sz : Nat) (l : List AV)
  | map (es : List (AV × AV))
  | tail
  | dead
  /-- a place kept for memory that an operation of a region without an order will make. -/
  | hole
  deriving Inhabited

abbrev H := List Blk
abbrev Fr := Nat → AV

inductive R (α : Type) where
  | ok (a : α)
  | no (why : String)

@[reducible] def R.bind {α β : Type} : R α → (α → R β) → R β
  | .ok a, f => f a
  | .no s, _ => .no s

def lift {α : Type} (why : String) : Option α → R α
  | some a => .ok a
  | none => .no why

def undef : AV := .tup []
/-- what is not known of a slot. -/
def top : AV := .fsl 0 []
def upd (τ : Fr) (i : Nat) (v : AV) : Fr := fun j => if j = i then v else τ j
def AV.cells : AV → List AV
  | .agg cs => cs
  | v => [v]
def AV.toV : AV → Option Value
  | .bool b => some (.bool b)
  | .int k n => some (.int k n)
  | .str s => some (.string s)
  | _ => none
/-- the value of one cell. -/
def AV.leaf : AV → Bool
  | .agg _ | .tup _ | .fsl _ _ => false
  | _ => true
def leafOf : Value → Option AV
  | .bool b => some (.bool b)
  | .int k n => some (.int k n)
  | .string s => some (.str s)
  | .pointer none => some .nilp
  | .slice none 0 0 => some .nils
  | .map none => some .nilm
  | .nilFunc => some .nilf
  | .nilIface => some .nili
  | _ => none
def leavesOf : List Value → Option (List AV)
  | [] => some []
  | v :: vs => match leafOf v, leavesOf vs with
    | some x, some xs => some (x :: xs)
    | _, _ => none
def ofV : Value → Option AV
  | .agg cs => (leavesOf cs.toList).map .agg
  | .tuple cs => (leavesOf cs.toList).map .tup
  | v => leafOf v

/-- what a Sem comes to that looks at nothing but the program. -/
def pureRun {α : Type} (P : Program) : Sem α → Option α
  | .pure a => some a
  | .program k => pureRun P (k P)
  | _ => none

structure Env where
  P : Program
  /-- functions that are known by a contract. -/
  C : FuncId → List AV → Option AV
  /-- variables of the program that are never written. -/
  G : Nat → Option (List AV)
  /-- rounds. -/
  M : Nat
  /-- which new slices (by function and slot) have elements that are written. -/
  L : FuncId → Nat → Bool
  /-- functions with a contract whose calls touch nothing. -/
  LC : FuncId → Bool
  /-- struct types that are compared field by field. -/
  S : TypeId → Bool
  /-- what hands a slice's elements to a round, from the last one to the first one. -/
  B : FuncId → Bool := fun _ => false

def ev (E : Env) (τ : Fr) : Operand → R AV
  | .tmp t => match τ t with
    | .fsl .. => .no "top"
    | v => .ok v
  | .const v => lift "const" (ofV v)
  | .global g => lift "global" ((E.G g).map fun cs => .fp cs 0)
  | .func f => .ok (.clo f [] [])
def evs (E : Env) (τ : Fr) : List Operand → R (List AV)
  | [] => .ok []
  | x :: xs => (ev E τ x).bind fun v => (evs E τ xs).bind fun vs => .ok (v :: vs)
def evo (E : Env) (τ : Fr) : Option Operand → R (Option AV)
  | none => .ok none
  | some x => (ev E τ x).bind fun v => .ok (some v)

def toVs : List AV → Option (List Value)
  | [] => some []
  | v :: vs => match v.toV, toVs vs with
    | some x, some xs => some (x :: xs)
    | _, _ => none

def info (P : Program) (t : TypeId) : R TypeInfo := lift "type" (P.info? t)
def under (P : Program) (t : TypeId) : R TypeDesc := lift "type" (P.underlying t)
def size (P : Program) (t : TypeId) : R Nat := (info P t).bind fun i => .ok i.size
def zero (P : Program) (t : TypeId) : R AV := (info P t).bind fun i => lift "zero" (i.zero.bind ofV)
def aggT (P : Program) (t : TypeId) : R Bool := (under P t).bind fun
  | .struct _ | .array _ _ => .ok true
  | _ => .ok false

/-- a value of type t out of a row of cells. -/
def partA (P : Program) (t : TypeId) (cs : List AV) (off : Nat) : R AV :=
  (aggT P t).bind fun b => if b then (size P t).bind fun s => if off + s ≤ cs.length then .ok (.agg ((cs.drop off).take s)) else .no "part" else lift "part" cs[off]?

def setCells (cs : List AV) (off : Nat) : List AV → List AV
  | [] => cs
  | v :: vs => setCells (cs.set off v) (off + 1) vs

/-- an element's cells as an element. -/
def mk (cs : List AV) (old : AV) : AV := match old with | .agg _ => .agg cs | _ => cs.headD old

def loadA (P : Program) (h : H) (t : TypeId) : AV → R AV
  | .ptr b off => match h[b]? with
    | some (.var cs) => partA P t cs off
    | _ => .no "load: block"
  | .eptr b i sz off => match h[b]? with
    | some (.arr sz' l) => match l[i]? with
      | some x => if sz = sz' then partA P t x.cells off else .no "load: size"
      | none => .no "load: element"
    | _ => .no "load: array"
  | .fp cs off => partA P t cs off
  | _ => .no "load: pointer"

def storeA (P : Program) (h : H) (t : TypeId) (v : AV) : AV → R H
  | .ptr b off => match h[b]? with
    | some (.var cs) => (size P t).bind fun s => if v.cells.length = s ∧ off + s ≤ cs.length ∧ v.cells.all AV.leaf then .ok (h.set b (.var (setCells cs off v.cells))) else .no "store: size"
    | _ => .no "store: block"
  | .eptr b i sz off => match h[b]? with
    | some (.arr sz' l) => match l[i]? with
      | some x => (size P t).bind fun s => if v.cells.length = s ∧ off + s ≤ x.cells.length ∧ v.cells.all AV.leaf ∧ sz = sz' then .ok (h.set b (.arr sz' (l.set i (mk (setCells x.cells off v.cells) x)))) else .no "store: size"
      | none => .no "store: element"
    | _ => .no "store: array"
  | _ => .no "store: pointer"

/-- the elements that a slice shows. -/
def elemsA (h : H) : AV → R (List AV)
  | .nils => .ok []
  | .lst _ l _ => .ok l
  | .sl b off len sz _ => match h[b]? with
    | some (.arr sz' l) => if off + len ≤ l.length ∧ sz = sz' then .ok ((l.drop off).take len) else .no "elems"
    | _ => .no "elems: dead"
  | .vsl b off len _ => match h[b]? with
    | some (.var l) => if off + len ≤ l.length ∧ ((l.drop off).take len).all AV.leaf then .ok ((l.drop off).take len) else .no "elems"
    | _ => .no "elems: dead"
  | _ => .no "elems: slice"
def lenA : AV → R Nat
  | .nils => .ok 0
  | .lst _ l _ => .ok l.length
  | .sl _ _ len _ _ => .ok len
  | .vsl _ _ len _ => .ok len
  | _ => .no "len"
/-- how many cells an element has; nothing is asked of nil. -/
def szA : AV → Nat → Bool
  | .nils, _ => true
  | .lst sz _ _, s | .sl _ _ _ sz _, s => sz == s
  | .vsl .., s => s == 1
  | _, _ => false

def intA : AV → R Int
  | .int _ n => .ok n
  | _ => .no "int"

def boundA : Option AV → Nat → R Nat
  | none, d => .ok d
  | some v, _ => (intA v).bind fun n => if 0 ≤ n then .ok n.toNat else .no "bound"

/-- x[l:h] of a slice that shows n elements; cut: its capacity ends there. -/
def cutA (x : AV) (l h n : Nat) (cut : Bool) : R AV :=
  match x with
  | .nils => .ok .nils
  | .lst sz xs tl => .ok (.lst sz ((xs.drop l).take (h - l)) (if cut then .clip else if h = n then tl else .open_))
  | .sl b off _ sz c => .ok (.sl b (off + l) (h - l) sz (cut || (c && h == n)))
  | .vsl b off _ c => .ok (.vsl b (off + l) (h - l) (cut || (c && h == n)))
  | _ => .no "slice"

def sliceA (P : Program) (t : TypeId) (x : AV) (lo hi mx : Option AV) : R AV :=
  (under P t).bind fun
  | .string => match x with
    | .str s => (boundA lo 0).bind fun l => (boundA hi s.size).bind fun h => if l ≤ h ∧ h ≤ s.size ∧ mx.isNone then .ok (.str (s.extract l h)) else .no "slice: bounds"
    | _ => .no "slice"
  | .slice e => (size P e).bind fun sz => (lenA x).bind fun n => (boundA lo 0).bind fun l => (boundA hi n).bind fun h => (boundA mx h).bind fun m =>
      if l ≤ h ∧ h ≤ n ∧ m = h ∧ szA x sz ∧ (mx.isNone ∨ hi.isSome) then cutA x l h n mx.isSome else .no "slice: bounds"
  | .array n e => (size P e).bind fun sz => (boundA lo 0).bind fun l => (boundA hi n).bind fun h =>
      if l ≤ h ∧ h ≤ n ∧ mx.isNone ∧ sz = 1 then match x with
        | .ptr b off => .ok (.vsl b (off + l) (h - l) false)
        | _ => .no "slice: array"
      else .no "slice: bounds"
  | _ => .no "slice: type"

def fillA (place : Nat → Option (Nat × Nat)) (cells : List AV) : List (Nat × AV) → R (List AV)
  | [] => .ok cells
  | (i, v) :: rest => match place i with
    | none => .no "fill"
    | some (off, sz) => if v.cells.length = sz ∧ off + sz ≤ cells.length then fillA place (setCells cells off v.cells) rest else .no "fill: size"

def sizesR (P : Program) : List Field → R (List (Nat × Nat))
  | [] => .ok []
  | f :: fs => (size P f.type).bind fun s => (sizesR P fs).bind fun r => .ok ((f.offset, s) :: r)

def buildA (P : Program) (t : TypeId) (parts : List (Nat × AV)) : R AV :=
  (zero P t).bind fun z => (under P t).bind fun
  | .struct fs => (sizesR P fs.toList).bind fun ps => (fillA (fun i => ps[i]?) z.cells parts).bind fun cs => .ok (.agg cs)
  | .array _ e => (size P e).bind fun s => (fillA (fun i => some (i * s, s)) z.cells parts).bind fun cs => .ok (.agg cs)
  | _ => .no "build"

/-- elements put into their places. -/
def fillE (sz : Nat) (l : List AV) : List (Nat × AV) → R (List AV)
  | [] => .ok l
  | (i, v) :: rest => if v.cells.length = sz ∧ i < l.length then fillE sz (l.set i v) rest else .no "fillE"

mutual
/-- are two values of a type equal, cell by cell; S: the struct types that hold no addresses of a package that the model stands in for. -/
def eqT (P : Program) (S : TypeId → Bool) : Nat → TypeId → AV → AV → Option Bool
  | 0, _, _, _ => none
  | d + 1, t, x, y => match P.underlying t, x, y with
    | some .bool, .bool a, .bool b => some (a == b)
    | some (.int _), .int k a, .int k' b => if k = k' then some (a == b) else none
    | some .string, .str a, .str b => some (a == b)
    | some (.struct fs), .agg xs, .agg ys => if S t then eqF P S d fs.toList xs ys else none
    | _, _, _ => none
  termination_by structural d => d
def eqF (P : Program) (S : TypeId → Bool) : Nat → List Field → List AV → List AV → Option Bool
  | 0, _, _, _ => none
  | _ + 1, [], _, _ => some true
  | d + 1, f :: fs, xs, ys => if f.name == "_" then none else match partA P f.type xs f.offset, partA P f.type ys f.offset with
    | .ok a, .ok b => match eqT P S d f.type a b, eqF P S d fs xs ys with
      | some p, some q => some (p && q)
      | _, _ => none
    | _, _ => none
  termination_by structural d => d
end

def eqA (P : Program) (S : TypeId → Bool) (t : TypeId) (x y : AV) : R Bool :=
  (under P t).bind fun d => match d, x, y with
  | .pointer _, .nilp, .nilp | .slice _, .nils, .nils | .map .., .nilm, .nilm | .func .., .nilf, .nilf => .ok true
  | .pointer _, .nilp, .ptr .. | .pointer _, .nilp, .eptr .. | .pointer _, .nilp, .fp .. | .pointer _, .ptr .., .nilp | .pointer _, .eptr .., .nilp | .pointer _, .fp .., .nilp => .ok false
  | .slice _, .nils, .lst _ (_ :: _) _ | .slice _, .nils, .sl .. | .slice _, .lst _ (_ :: _) _, .nils | .slice _, .sl .., .nils => .ok false
  | .pointer e, .ptr b off, .ptr b' off' => (size P e).bind fun s => if b = b' ∧ s ≠ 0 then .ok (off == off') else .no "eq: pointers"
  | .map .., .nilm, .map _ | .map .., .map _, .nilm | .func .., .nilf, .clo .. | .func .., .clo .., .nilf => .ok false
  | .struct _, .agg xs, .agg ys => if P.eqGuardType P.depth t then .no "eq: guard" else lift "eq" (eqT P S 99 t (.agg xs) (.agg ys))
  | _, _, _ => .no "eq"

/-- keys that are the same bit by bit. -/
def plain1 : AV → AV → Bool
  | .bool a, .bool b => a == b
  | .int j a, .int k b => j == k && a == b
  | .str a, .str b => a == b
  | _, _ => false
def plains : List AV → List AV → Bool
  | [], [] => true
  | x :: xs, y :: ys => plain1 x y && plains xs ys
  | _, _ => false
def plainEq : AV → AV → Bool
  | .agg xs, .agg ys => plains xs ys
  | x, y => plain1 x y

def toBytes : List AV → R (List UInt8)
  | [] => .ok []
  | .int .u8 n :: vs => (toBytes vs).bind fun r => .ok (UInt8.ofNat n.toNat :: r)
  | _ => .no "bytes"
def ofBytes (s : ByteArray) : List AV := s.data.toList.map fun c : UInt8 => AV.int .u8 c.toNat

mutual
/-- can a value be a key? -/
def keyA (P : Program) : Nat → TypeId → AV → Bool
  | 0, _, _ => false
  | d + 1, t, x => match P.underlying t, x with
    | some .bool, _ | some (.int _), _ | some .string, _ => true
    | some (.struct fs), .agg cs => keyF P d fs.toList cs
    | _, _ => false
  termination_by structural d => d
def keyF (P : Program) : Nat → List Field → List AV → Bool
  | 0, _, _ => false
  | _ + 1, [], _ => true
  | d + 1, f :: fs, cs => match partA P f.type cs f.offset with
    | .ok v => keyA P d f.type v && keyF P d fs cs
    | .no _ => false
  termination_by structural d => d
end

/-- where a key stands, and what stands there. -/
def find (eq : AV → AV → Option Bool) (k : AV) : List (AV × AV) → Option (Option (Nat × AV))
  | [] => some none
  | (a, v) :: es => match eq k a with
    | some true => some (some (0, v))
    | some false => (find eq k es).map fun r => r.map fun (i, v) => (i + 1, v)
    | none => none

def binA (P : Program) (S : TypeId → Bool) (op : BinOp) (t : TypeId) (x y : AV) : R AV :=
  match x.toV, y.toV with
  | some a, some b => lift "binOp" ((pureRun P (binOp op t a b)).bind ofV)
  | _, _ => match op with
    | .eql => (eqA P S t x y).bind fun b => .ok (.bool b)
    | .neq => (eqA P S t x y).bind fun b => .ok (.bool (!b))
    | _ => .no "binOp"

def mapOf (h : H) : AV → R (List (AV × AV))
  | .nilm => .ok []
  | .map b => match h[b]? with
    | some (.map es) => .ok es
    | _ => .no "map"
  | _ => .no "map"

inductive Kind where
  | pure | read | light | alloc | heavy | call
  deriving DecidableEq

def isSliceT (P : Program) (t : TypeId) : Bool := match P.underlying t with | some (.slice _) => true | _ => false
def isMapT (P : Program) (t : TypeId) : Bool := match P.underlying t with | some (.map ..) => true | _ => false

def kindOf (E : Env) : Op → Kind
  | .alloc _ | .box .. | .buildSlice .. | .makeSlice .. | .makeMap .. => .alloc
  | .load .. | .lookup .. => .read
  | .store .. | .mapUpdate .. | .insert .. => .heavy
  | .convert src dst _ => if isSliceT E.P src then .read else if isSliceT E.P dst then .alloc else .pure
  | .call { callee := .builtin b, argTypes, .. } => match b with
    | .len => if isMapT E.P (argTypes.getD 0 0) then .read else .pure
    | .min | .max => .pure
    | _ => .heavy
  | .call { callee := .value (.func g), .. } => if E.LC g then .light else .call
  | .call _ => .call
  | _ => .pure

/-- the place of x[i]. -/
def indexA (P : Program) (t : TypeId) (x : AV) (i : Int) : R AV :=
  (under P t).bind fun
    | .slice e => (size P e).bind fun s => (lenA x).bind fun n => if 0 ≤ i ∧ i < n ∧ szA x s then (match x with
        | .lst _ l _ => match l[i.toNat]? with | some v => .ok (.fp v.cells 0) | none => .no "index"
        | .sl b off _ sz _ => .ok (.eptr b (off + i.toNat) sz 0)
        | .vsl b off _ _ => .ok (.ptr b (off + i.toNat))
        | _ => .no "index") else .no "index: bounds"
    | .array n e => (size P e).bind fun s => if 0 ≤ i ∧ i < n then (match x with
        | .ptr b off => .ok (.ptr b (off + i.toNat * s))
        | .eptr b j sz off => .ok (.eptr b j sz (off + i.toNat * s))
        | .fp cs off => .ok (.fp cs (off + i.toNat * s))
        | _ => .no "index") else .no "index: bounds"
    | _ => .no "index"

def pureA (E : Env) (τ : Fr) (o : Oper) : R AV :=
  match o.op with
  | .move x | .assign x => ev E τ x
  | .pick c a b => (ev E τ c).bind fun
    | .bool true => ev E τ a
    | .bool false => ev E τ b
    | _ => .no "pick"
  | .build t parts => (evs E τ (parts.toList.map (·.2))).bind fun vs => buildA E.P t ((parts.toList.map (·.1)).zip vs)
  | .nilCheck x => (ev E τ x).bind fun
    | .nilp | .nilf | .nili => .no "nil"
    | v => .ok v
  | .binOp op t x y _ => (ev E τ x).bind fun a => (ev E τ y).bind fun b => binA E.P E.S op t a b
  | .unOp op _ x => (ev E τ x).bind fun a => lift "unOp" (a.toV.bind fun v => (pureRun E.P (Op.unary op v)).bind ofV)
  | .convert src dst x => (ev E τ x).bind fun a => (under E.P src).bind fun us => (under E.P dst).bind fun ud => match us, ud, a with
    | .int _, .int k, .int _ n => .ok (.int k (k.wrap n))
    | .string, .string, .str s => .ok (.str s)
    | _, _, _ => .no "convert"
  | .makeFunc fn first caps => match fn with
    | .func f => (evs E τ first.toList).bind fun vs => (evs E τ caps.toList).bind fun cs => .ok (.clo f vs cs)
    | _ => .no "makeFunc"
  | .slice t x lo hi mx => (ev E τ x).bind fun a => (evo E τ lo).bind fun lo => (evo E τ hi).bind fun hi => (evo E τ mx).bind fun mx => sliceA E.P t a lo hi mx
  | .fieldAddr s x f => (ev E τ x).bind fun p => (under E.P s).bind fun
    | .struct fs => (lift "field" fs[f]?).bind fun fd => (size E.P fd.type).bind fun z => if z = 0 then .no "field: size" else match p with
      | .ptr b off => .ok (.ptr b (off + fd.offset))
      | .eptr b i sz off => .ok (.eptr b i sz (off + fd.offset))
      | .fp cs off => .ok (.fp cs (off + fd.offset))
      | _ => .no "fieldAddr"
    | _ => .no "fieldAddr"
  | .field t x f => (ev E τ x).bind fun v => (under E.P t).bind fun
    | .struct fs => (lift "field" fs[f]?).bind fun fd => match v with
      | .agg cs => partA E.P fd.type cs fd.offset
      | _ => .no "field"
    | _ => .no "field"
  | .indexAddr t x ix => (ev E τ x).bind fun x => (ev E τ ix).bind fun i => (intA i).bind fun i => indexA E.P t x i
  | .index t x ix => (ev E τ x).bind fun x => (ev E τ ix).bind fun i => match x, i with
    | .str s, .int k n => lift "index" ((pureRun E.P (Instr.index t (.string s) (.int k n))).bind ofV)
    | .agg cs, .int _ n => (under E.P t).bind fun
      | .array len e => (size E.P e).bind fun s => if 0 ≤ n ∧ n < len then partA E.P e cs (n.toNat * s) else .no "index: bounds"
      | _ => .no "index"
    | _, _ => .no "index"
  | .extract t i => (ev E τ t).bind fun
    | .tup vs => lift "extract" vs[i]?
    | _ => .no "extract"
  | .call { callee := .builtin b, args, argTypes } => (evs E τ args.toList).bind fun vs => match b, vs with
    | .len, [.str s] => (lift "len" argTypes[0]?).bind fun t => (under E.P t).bind fun
      | .string => .ok (.int .i64 s.size)
      | _ => .no "len"
    | .len, [x] => (lift "len" argTypes[0]?).bind fun t => (under E.P t).bind fun
      | .slice _ => (lenA x).bind fun n => .ok (.int .i64 n)
      | _ => .no "len"
    | .min, vs | .max, vs => (lift "minmax" (toVs vs)).bind fun vs => lift "minmax" ((pureRun E.P (if b == .min then Builtin.min_ argTypes o.type vs.toArray else Builtin.max_ argTypes o.type vs.toArray)).bind ofV)
    | _, _ => .no "builtin"
  | _ => .no "op"

def readA (E : Env) (τ : Fr) (h : H) (o : Oper) : R AV :=
  match o.op with
  | .load t a => (ev E τ a).bind fun p => loadA E.P h t p
  | .convert src dst x => (ev E τ x).bind fun a => (under E.P src).bind fun us => (under E.P dst).bind fun ud => match us, ud with
    | .slice e, .string => (under E.P e).bind fun
      | .int .u8 => (size E.P e).bind fun s => if szA a s && s == 1 then (elemsA h a).bind fun l => (toBytes l).bind fun bs => .ok (.str ⟨bs.toArray⟩) else .no "convert"
      | _ => .no "convert"
    | _, _ => .no "convert"
  | .lookup t m k ok => (ev E τ m).bind fun m => (ev E τ k).bind fun k => (under E.P t).bind fun
    | .map kt e => (mapOf h m).bind fun es => (zero E.P e).bind fun z => if keyA E.P 99 kt k = false then .no "lookup: key" else (lift "lookup: key" (find (eqT E.P E.S 99 kt) k es)).bind fun r =>
        let v := match r with | some (_, v) => v | none => z
        if ok then .ok (.tup [v, .bool r.isSome]) else .ok v
    | _ => .no "lookup"
  | .call { callee := .builtin .len, args, argTypes } => (evs E τ args.toList).bind fun
    | [x] => (lift "len" argTypes[0]?).bind fun t => (under E.P t).bind fun
      | .map .. => (mapOf h x).bind fun es => .ok (.int .i64 es.length)
      | _ => .no "len"
    | _ => .no "len"
  | _ => .no "op"

def locB (E : Env) (f : FuncId) (dst : Option Nat) : Bool := match dst with
  | some d => E.L f d
  | none => false
/-- a new slice's value and block. -/
def newSl (E : Env) (f : FuncId) (dst : Option Nat) (id sz : Nat) (l : List AV) : AV × Blk :=
  match locB E f dst with
  | true => (.sl id 0 l.length sz false, .arr sz l)
  | false => (.lst sz l (.own id), .tail)

def allocA (E : Env) (f : FuncId) (τ : Fr) (id : Nat) (o : Oper) : R (AV × Blk) :=
  match o.op with
  | .alloc t => (zero E.P t).bind fun z => .ok (.ptr id 0, .var z.cells)
  | .box _ x => (ev E τ x).bind fun v => if v.cells.all AV.leaf then .ok (.ptr id 0, .var v.cells) else .no "box"
  | .buildSlice t n parts => (evs E τ (parts.toList.map (·.2))).bind fun vs => (under E.P t).bind fun
    | .slice e => (size E.P e).bind fun sz => (zero E.P e).bind fun z => if z.cells.length = sz ∧ n * sz ≤ 16777216 then (fillE sz (List.replicate n z) ((parts.toList.map (·.1)).zip vs)).bind fun l => .ok (newSl E f o.dst id sz l) else .no "buildSlice"
    | _ => .no "buildSlice"
  | .makeMap _ none => .ok (.map id, .map [])
  | .makeSlice t l c => (under E.P t).bind fun
    | .slice e => (info E.P e).bind fun i => (zero E.P e).bind fun z => (ev E τ l).bind fun l => (ev E τ c).bind fun c => (intA l).bind fun n => (intA c).bind fun m =>
        if 0 ≤ n ∧ n ≤ m ∧ m * i.bytes ≤ 140737488355328 ∧ m ≤ 140737488355328 ∧ z.cells.length = i.size then .ok (newSl E f o.dst id i.size (List.replicate n.toNat z)) else .no "makeSlice"
    | _ => .no "makeSlice"
  | .convert src dst x => (ev E τ x).bind fun a => (under E.P src).bind fun us => (under E.P dst).bind fun ud => match us, ud, a with
    | .string, .slice e, .str s => (under E.P e).bind fun
      | .int .u8 => (size E.P e).bind fun sz => if sz = 1 then .ok (newSl E f o.dst id 1 (ofBytes s)) else .no "convert"
      | _ => .no "convert"
    | _, _, _ => .no "convert"
  | _ => .no "op"

/-- what is appended. -/
def newsA (P : Program) (sz : Nat) (xt : TypeId) (x : AV) (h : H) : R (List AV) :=
  (under P xt).bind fun
  | .slice _ => if szA x sz then elemsA h x else .no "append: size"
  | .string => match x with
    | .str b => if sz = 1 then .ok (ofBytes b) else .no "append: string"
    | _ => .no "append"
  | _ => .no "append"

def appendA (E : Env) (f : FuncId) (dst : Option Nat) (st xt : TypeId) (s x : AV) (h : H) : R (AV × H) :=
  (under E.P st).bind fun
  | .slice e => (info E.P e).bind fun i => (zero E.P e).bind fun z => (newsA E.P i.size xt x h).bind fun new => (lenA s).bind fun n =>
    if szA s i.size ∧ (n + new.length) * i.bytes ≤ 140000000000000 ∧ n + new.length ≤ 140000000000000 ∧ 0 < i.bytes ∧ z.cells.length = i.size ∧ (new.all fun y => y.cells.all AV.leaf) = true then match s with
    | .nils => if new.isEmpty then .ok (.nils, h) else .ok ((newSl E f dst h.length i.size new).1, h ++ [(newSl E f dst h.length i.size new).2])
    | .lst sz old .clip => if new.isEmpty then .ok (.lst sz old .clip, h) else .ok ((newSl E f dst h.length sz (old ++ new)).1, h ++ [(newSl E f dst h.length sz (old ++ new)).2])
    | .lst sz old (.own t) => match h[t]? with
      | some .tail => .ok (.lst sz (old ++ new) (.own h.length), h.set t .dead ++ [.tail])
      | _ => .no "append: spent"
    | .sl b off len sz clip => (elemsA h s).bind fun old =>
        if clip then (if new.isEmpty then .ok (s, h) else .ok ((newSl E f dst h.length sz (old ++ new)).1, h ++ [(newSl E f dst h.length sz (old ++ new)).2]))
        else if off = 0 then .ok (.sl h.length 0 (old ++ new).length sz false, h.set b .dead ++ [.arr sz (old ++ new)]) else .no "append: middle"
    | _ => .no "append"
    else .no "append: room"
  | _ => .no "append"

def copyA (P : Program) (dt st : TypeId) (d s : AV) (h : H) : R (AV × H) :=
  (under P dt).bind fun
  | .slice e => (size P e).bind fun sz => (newsA P sz st s h).bind fun new => match d with
    | .sl b off len sz' _ => match h[b]? with
      | some (.arr sz'' l) => let n := min new.length len
          if sz = sz' ∧ sz' = sz'' ∧ off + len ≤ l.length ∧ (new.all fun y => y.cells.all AV.leaf) = true then .ok (.int .i64 n, h.set b (.arr sz'' (l.take off ++ new.take n ++ l.drop (off + n)))) else .no "copy"
      | _ => .no "copy"
    | .nils => .ok (.int .i64 0, h)
    | _ => .no "copy"
  | _ => .no "copy"

def heavyA (E : Env) (f : FuncId) (τ : Fr) (h : H) (o : Oper) : R (AV × H) :=
  match o.op with
  | .store t a x => (ev E τ a).bind fun p => (ev E τ x).bind fun v => (storeA E.P h t v p).bind fun h' => .ok (undef, h')
  | .mapUpdate t m k x | .insert t m k x => (ev E τ m).bind fun m => (ev E τ k).bind fun k => (ev E τ x).bind fun v => (under E.P t).bind fun
    | .map kt _ => match m with
      | .map b => match h[b]? with
        | some (.map es) => if keyA E.P 99 kt k = false then .no "mapUpdate: key" else (lift "mapUpdate: key" (find (eqT E.P E.S 99 kt) k es)).bind fun
          | some (i, _) => match es[i]? with
            | some e => if plainEq k e.1 then .ok (undef, h.set b (.map (es.set i (k, v)))) else .no "mapUpdate: key"
            | none => .no "mapUpdate"
          | none => .ok (undef, h.set b (.map (es ++ [(k, v)])))
        | _ => .no "mapUpdate"
      | _ => .no "mapUpdate"
    | _ => .no "mapUpdate"
  | .call { callee := .builtin b, args, argTypes } => (evs E τ args.toList).bind fun vs => match b, vs with
    | .append, [s, x] => (lift "append" argTypes[0]?).bind fun t => (lift "append" argTypes[1]?).bind fun u => appendA E f o.dst t u s x h
    | .copy, [d, s] => (lift "copy" argTypes[0]?).bind fun t => (lift "copy" argTypes[1]?).bind fun u => copyA E.P t u d s h
    | _, _ => .no "builtin"
  | _ => .no "op"

inductive X where
  | normal | ret | exit (id : Nat)
  deriving DecidableEq

abbrev CallF := FuncId → List AV → H → R (AV × H)

mutual
/-- fresh slices come into the caller's memory. -/
def thaw (h : H) : AV → AV × H
  | .fsl sz l => (.lst sz l (.own h.length), h ++ [.tail])
  | .agg cs => let (cs, h) := thaws h cs; (.agg cs, h)
  | .tup cs => let (cs, h) := thaws h cs; (.tup cs, h)
  | v => (v, h)
def thaws (h : H) : List AV → List AV × H
  | [] => ([], h)
  | v :: vs => let (v, h) := thaw h v; let (vs, h) := thaws h vs; (v :: vs, h)
end

mutual
/-- no fresh slices. -/
def noF : AV → Bool
  | .fsl _ _ => false
  | .agg cs => noFs cs
  | .tup cs => noFs cs
  | _ => true
def noFs : List AV → Bool
  | [] => true
  | v :: vs => noF v && noFs vs
end

def callA (E : Env) (call : CallF) (τ : Fr) (h : H) (o : Oper) : R (AV × H) :=
  match o.op with
  | .call { callee := .value g, args, .. } => (ev E τ g).bind fun
    | .clo g first caps => (evs E τ args.toList).bind fun vs => match E.C g (first ++ vs ++ caps) with
      | some r => .ok (thaw h r)
      | none => call g (first ++ vs ++ caps) h
    | _ => .no "call"
  | _ => .no "call"

def lightA (E : Env) (τ : Fr) (o : Oper) : R AV :=
  match o.op with
  | .call { callee := .value (.func g), args, .. } => (evs E τ args.toList).bind fun vs => match E.C g vs with
    | some r => if noF r then .ok r else .no "light: fresh"
    | none => .no "light"
  | _ => .no "light"

def opA (E : Env) (f : FuncId) (call : CallF) (τ : Fr) (h : H) (o : Oper) : R (AV × H) :=
  match kindOf E o.op with
  | .pure => (pureA E τ o).bind fun v => .ok (v, h)
  | .read => (readA E τ h o).bind fun v => .ok (v, h)
  | .light => (lightA E τ o).bind fun v => .ok (v, h)
  | .alloc => (allocA E f τ h.length o).bind fun (v, b) => .ok (v, h ++ [b])
  | .heavy => heavyA E f τ h o
  | .call => callA E call τ h o

/-- the block that a value points into. -/
def depOf : AV → Option Nat
  | .ptr b _ | .eptr b _ _ _ | .sl b _ _ _ _ | .vsl b _ _ _ | .map b => some b
  | _ => none
/-- the block that a read operation looks into. -/
def readDep (E : Env) (τ : Fr) (o : Oper) : Option Nat :=
  match o.op with
  | .load _ x | .convert _ _ x => match ev E τ x with | .ok v => depOf v | _ => none
  | .lookup _ m _ _ => match ev E τ m with | .ok v => depOf v | _ => none
  | .call { args, .. } => match args.toList with | [x] => (match ev E τ x with | .ok v => depOf v | _ => none) | _ => none
  | _ => none

def wantA (ops : Array Oper) (τ : Fr) (o : Oper) : Bool :=
  match o.guard with
  | none => true
  | some (j, want) => match (ops[j]?).bind (·.dst) with
    | some d => match τ d with
      | .bool b => b == want
      | _ => false
    | none => false

/-- is an operation's guard a slot of which nothing is known? -/
def gtop (ops : Array Oper) (τ : Fr) (o : Oper) : Bool :=
  match o.guard with
  | none => false
  | some (j, _) => match (ops[j]?).bind (·.dst) with
    | some d => match τ d with
      | .fsl .. => true
      | _ => false
    | none => false

def putA (N : Nat) (τ : Fr) (dst : Option Nat) (v : AV) : R Fr :=
  match dst with
  | some d => if d < N then .ok (upd τ d v) else .no "slot"
  | none => .ok τ

def stepA (E : Env) (f : FuncId) (call : CallF) (N : Nat) (ops : Array Oper) (τ : Fr) (h : H) (o : Oper) : R (Fr × H) :=
  if gtop ops τ o then .no "guard" else if wantA ops τ o then
    match opA E f call τ h o with
    | .ok (v, h') => (putA N τ o.dst v).bind fun τ' => .ok (τ', h')
    | .no s => .no (s ++ " @ " ++ o.pos)
  else (putA N τ o.dst undef).bind fun τ' => .ok (τ', h)

def opsA (E : Env) (f : FuncId) (call : CallF) (N : Nat) (ops : Array Oper) : List Oper → Fr → H → R (Fr × H)
  | [], τ, h => .ok (τ, h)
  | o :: rest, τ, h => (stepA E f call N ops τ h o).bind fun (τ', h') => opsA E f call N ops rest τ' h'

/-! ## regions that draw their order -/
def isAl (E : Env) (o : Oper) : Bool := match kindOf E o.op with
  | .alloc => true
  | _ => false
/-- how many of the operations make memory. -/
def alsOf (E : Env) (l : List Oper) : Nat := (l.filter (isAl E)).length
/-- one operation of a region without an order: new memory stands at the place kept for it. -/
def stepD (E : Env) (f : FuncId) (call : CallF) (N : Nat) (ops : Array Oper) (id : Nat) (τ : Fr) (h : H) (o : Oper) : R (Fr × H) :=
  if isAl E o then
    if gtop ops τ o then .no "guard" else if wantA ops τ o then
      match h[id]? with
      | some .hole => match allocA E f τ id o with
        | .ok (v, b) => (putA N τ o.dst v).bind fun τ' => .ok (τ', h.set id b)
        | .no s => .no (s ++ " @ " ++ o.pos)
      | _ => .no "hole"
    else (putA N τ o.dst undef).bind fun τ' => .ok (τ', h)
  else stepA E f call N ops τ h o
/-- the states ahead of each operation, in the text's order. -/
def traceA (E : Env) (f : FuncId) (call : CallF) (N : Nat) (ops : Array Oper) : List Oper → Nat → Fr → H → R (List (Fr × H) × (Fr × H))
  | [], _, τ, h => .ok ([], (τ, h))
  | o :: rest, id, τ, h => (stepD E f call N ops id τ h o).bind fun (τ', h') => (traceA E f call N ops rest (if isAl E o then id + 1 else id) τ' h').bind fun (l, r) => .ok ((τ, h) :: l, r)

/-- what must stand ahead of an operation, as bits. -/
def maskOf (acc : List Nat) (o : Oper) : Nat := o.after.toList.foldl (fun s e => if Region.binds .any e then s ||| 2 ^ e.on ||| acc.getD e.on 0 else s) 0
def masksA : List Oper → List Nat → List Nat
  | [], acc => acc
  | o :: os, acc => masksA os (acc ++ [maskOf acc o])

/-- an operation that makes or writes memory. -/
def isO (E : Env) (o : Oper) : Bool := match kindOf E o.op with
  | .alloc | .heavy | .call => true
  | _ => false

def opAt (ops : Array Oper) (i : Nat) : Oper := ops.getD i default

/-- operations i < j that need not be ordered by the text. -/
def apartB (ops : Array Oper) (x y : Oper) : Bool :=
  (match x.dst with
   | some d => !(y.looksAt ops).contains d && y.dst != some d
   | none => true) &&
  (match y.dst with
   | some d => !(x.looksAt ops).contains d
   | none => true)

/-- operations i < j that make or write memory and stand in whatever order. -/
def freeB (E : Env) (x y : Oper) : Bool := !(isO E x && isO E y) || isAl E y
def drawS (E : Env) (ops : Array Oper) (ms : List Nat) : Bool :=
  (List.range ops.size).all fun j =>
    ((opAt ops j).after.toList.all fun e => !Region.binds .any e || decide (e.on < j)) &&
    (List.range j).all fun i => (ms.getD j 0).testBit i || (freeB E (opAt ops i) (opAt ops j) && apartB ops (opAt ops i) (opAt ops j))

/-- the place kept for what operation i makes. -/
def idAt (E : Env) (ops : Array Oper) (base i : Nat) : Nat := base + alsOf E (ops.toList.take i)
/-- reads j, and operations i beside them that make or write memory. -/
def pairsA (E : Env) (ops : Array Oper) (ms : List Nat) : List (Nat × Nat) :=
  (List.range ops.size).flatMap fun j => if kindOf E (opAt ops j).op = .read then
    ((List.range ops.size).filter fun i => isO E (opAt ops i) && !(i == j) && !(ms.getD j 0).testBit i && !(ms.getD i 0).testBit j).map fun i => (j, i) else []

mutual
def same : AV → AV → Bool
  | .bool a, .bool b => a == b
  | .int j a, .int k b => decide (j = k) && decide (a = b)
  | .str a, .str b => decide (a = b)
  | .nilp, .nilp | .nils, .nils | .nilm, .nilm | .nilf, .nilf | .nili, .nili => true
  | .ptr b o, .ptr b' o' => decide (b = b') && decide (o = o')
  | .eptr b i s o, .eptr b' i' s' o' => decide (b = b') && decide (i = i') && decide (s = s') && decide (o = o')
  | .fp l o, .fp l' o' => sames l l' && decide (o = o')
  | .sl b o n s c, .sl b' o' n' s' c' => decide (b = b') && decide (o = o') && decide (n = n') && decide (s = s') && decide (c = c')
  | .vsl b o n c, .vsl b' o' n' c' => decide (b = b') && decide (o = o') && decide (n = n') && decide (c = c')
  | .lst s l t, .lst s' l' t' => decide (s = s') && sames l l' && decide (t = t')
  | .fsl s l, .fsl s' l' => decide (s = s') && sames l l'
  | .map b, .map b' => decide (b = b')
  | .clo f l m, .clo f' l' m' => decide (f = f') && sames l l' && sames m m'
  | .agg l, .agg l' => sames l l'
  | .tup l, .tup l' => sames l l'
  | _, _ => false
def sames : List AV → List AV → Bool
  | [], [] => true
  | x :: xs, y :: ys => same x y && sames xs ys
  | _, _ => false
end
def samePairs : List (AV × AV) → List (AV × AV) → Bool
  | [], [] => true
  | x :: xs, y :: ys => same x.1 y.1 && same x.2 y.2 && samePairs xs ys
  | _, _ => false
def sameBlk : Option Blk → Option Blk → Bool
  | none, none => true
  | some (.var l), some (.var l') => sames l l'
  | some (.arr s l), some (.arr s' l') => decide (s = s') && sames l l'
  | some (.map l), some (.map l') => samePairs l l'
  | some .tail, some .tail | some .dead, some .dead | some .hole, some .hole => true
  | _, _ => false

/-- the memory at a place of the text. -/
def heapAt (tr : List (Fr × H)) (last : H) (i : Nat) : H := match tr[i]? with
  | some p => p.2
  | none => last
def frameAt (tr : List (Fr × H)) (last : Fr) (i : Nat) : Fr := match tr[i]? with
  | some p => p.1
  | none => last

/-- two results are alike. -/
def sameR : R AV → R AV → Bool
  | .ok a, .ok b => same a b
  | _, _ => false
def drawD (E : Env) (ops : Array Oper) (tr : List (Fr × H)) (lt : Fr) (lh : H) (ps : List (Nat × Nat)) : Bool :=
  ps.all fun (j, i) => (match readDep E (frameAt tr lt j) (opAt ops j) with
    | some b => sameBlk (heapAt tr lh i)[b]? (heapAt tr lh (i + 1))[b]?
    | none => true) || sameR (readA E (frameAt tr lt j) (heapAt tr lh i) (opAt ops j)) (readA E (frameAt tr lt j) (heapAt tr lh (i + 1)) (opAt ops j))
/-- no read looks at a place that is kept for a later operation. -/
def drawL (E : Env) (ops : Array Oper) (tr : List (Fr × H)) (lt : Fr) (base : Nat) : Bool :=
  (List.range ops.size).all fun j => if kindOf E (opAt ops j).op = .read then
    (match readDep E (frameAt tr lt j) (opAt ops j) with
     | some b => (List.range ops.size).all fun i => decide (i < j) || !isAl E (opAt ops i) || b != idAt E ops base i
     | none => true) else true

/-- the places kept are kept till their operations. -/
def drawH (E : Env) (ops : Array Oper) (tr : List (Fr × H)) (lh : H) (base : Nat) : Bool :=
  (List.range ops.size).all fun i => !isAl E (opAt ops i) || (List.range (i + 1)).all fun m => sameBlk (heapAt tr lh m)[idAt E ops base i]? (some .hole)

def regionA (E : Env) (f : FuncId) (call : CallF) (N : Nat) (ops : Array Oper) (draw : Bool) (τ : Fr) (h : H) : R (Fr × H) :=
  match draw with
  | false => opsA E f call N ops ops.toList τ h
  | true => (traceA E f call N ops ops.toList h.length τ (h ++ List.replicate (alsOf E ops.toList) .hole)).bind fun (tr, (τ', h')) =>
    if drawS E ops (masksA ops.toList []) = true then
      if drawD E ops tr τ' h' (pairsA E ops (masksA ops.toList [])) = true then
        if drawL E ops tr τ' h.length = true then
          if drawH E ops tr h' h.length = true then .ok (τ', h') else .no "draw: kept"
        else .no "draw: later"
      else .no "draw: read"
    else .no "draw: order"

def iter (g : Fr → H → R (X × Fr × H)) : Nat → Fr → H → R (X × Fr × H)
  | 0, _, _ => .no "rounds"
  | n + 1, τ, h => match g τ h with
    | .ok (.normal, τ, h) => iter g n τ h
    | r => r

/-- slots that a round is handed. -/
def setPs (τ : Fr) : List Nat → List AV → Fr
  | p :: ps, v :: vs => setPs (upd τ p v) ps vs
  | _, _ => τ
/-- the rounds of a range over a function. -/
def rounds (ga gb : Fr → H → R (X × Fr × H)) (τ : Fr) (ps : List Nat) (b : Nat) (s : AV) : List (Nat × AV) → H → R H
  | [], h => .ok h
  | (i, x) :: rest, h => if sameBlk h[b]? (some (.var [s])) = true then
      match ga (setPs τ ps [.int .i64 i, x]) h with
      | .ok (.normal, τ1, h1) => match gb τ1 h1 with
        | .ok (.normal, _, h2) => rounds ga gb τ ps b s rest h2
        | .ok _ => .no "rounds: exit"
        | .no s => .no s
      | .ok _ => .no "rounds: assign"
      | .no s => .no s
    else .no "rounds: slice"
/-- no range over a function in it. -/
def noRF : Code → Bool
  | .rangeFunc .. => false
  | .seq a b | .cond _ a b => noRF a && noRF b
  | .block _ b | .loop b => noRF b
  | _ => true
def backL (l : List AV) : List (Nat × AV) := ((List.range l.length).zip l).reverse

def exec (E : Env) (f : FuncId) (call : CallF) (N : Nat) : Code → Fr → H → R (X × Fr × H)
  | .skip, τ, h => .ok (.normal, τ, h)
  | .label _, τ, h => .ok (.normal, τ, h)
  | .region _ ops draw, τ, h => (regionA E f call N ops draw τ h).bind fun (τ, h) => .ok (.normal, τ, h)
  | .seq a b, τ, h => match exec E f call N a τ h with
    | .ok (.normal, τ, h) => exec E f call N b τ h
    | r => r
  | .cond c a b, τ, h => match ev E τ c with
    | .ok (.bool true) => exec E f call N a τ h
    | .ok (.bool false) => exec E f call N b τ h
    | _ => .no "cond"
  | .block id b, τ, h => match exec E f call N b τ h with
    | .ok (.exit i, τ, h) => .ok (if i = id then .normal else .exit i, τ, h)
    | r => r
  | .loop b, τ, h => iter (exec E f call N b) E.M τ h
  | .exit i, τ, h => .ok (.exit i, τ, h)
  | .ret, τ, h => .ok (.ret, τ, h)
  | .rangeFunc g ps assign body, τ, h => match ev E τ g with
    | .ok (.clo gf [] [.ptr b 0]) => if E.B gf = true then
        match h[b]? with
        | some (.var [.nils]) => .ok (.normal, τ, h)
        | some (.var [.lst sz l tl]) => if sz = 1 ∧ l.length ≤ 1000000 ∧ ps.size = 2 ∧ (ps.toList.all fun p => decide (p < N)) = true ∧ (l.all AV.leaf) = true ∧ noRF assign = true ∧ noRF body = true then
            match rounds (exec E f call N assign) (exec E f call N body) τ ps.toList b (.lst sz l tl) (backL l) h with
            | .ok h' => .ok (.normal, τ, h')
            | .no s => .no s
          else .no "range: size"
        | _ => .no "range: slice"
      else .no "range: function"
    | _ => .no "range: value"
  | _, _, _ => .no "code"

def resA (E : Env) (τ : Fr) (h : H) : List ResultVar → R (List AV)
  | [] => .ok []
  | .tmp t :: rs => (ev E τ (.tmp t)).bind fun v => (resA E τ h rs).bind fun vs => .ok (v :: vs)
  | .cell a t :: rs => (loadA E.P h t (τ a)).bind fun v => (resA E τ h rs).bind fun vs => .ok (v :: vs)

def initFr (args : List AV) : Fr := fun i => args.getD i undef

def acall (E : Env) : Nat → CallF
  | 0, _, _, _ => .no "deep"
  | n + 1, f, args, h => match E.P.funcs[f]? with
    | some fn => match fn.body with
      | some c => if fn.name == "runtime.NumGoroutine" then .no "name" else
        match exec E f (acall E n) (max fn.ntmps args.length) c (initFr args) h with
        | .ok (.exit _, _, _) => .no "exit"
        | .ok (_, τ, h) => (resA E τ h fn.results.toList).bind fun vs => .ok (match vs with | [v] => v | vs => .tup vs, h)
        | .no s => .no s
      | none => .no ("body " ++ fn.name)
    | none => .no "func"

end Go.Proofs.YthfkkflogbibfaaGreatDoor.AM
