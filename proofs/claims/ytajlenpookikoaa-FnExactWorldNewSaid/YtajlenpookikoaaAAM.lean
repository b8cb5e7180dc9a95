/- An interpreter of the model's code over values that are told, and its soundness. -/
import Derived.Orders
import Derived.Laws.IdiomCopy
namespace Go.AM

/-! An executable abstract interpreter over the model's own code: immutable data by value, typed by codes; rows and variables of the call's own in an abstract heap. -/

/-- A node of a tree. -/
inductive Node where
  | mk (op : Int) (s : ByteArray) (n : Int) (kids : List Node)
namespace Node
def op : Node → Int | mk o _ _ _ => o
def s : Node → ByteArray | mk _ s _ _ => s
def n : Node → Int | mk _ _ n _ => n
def kids : Node → List Node | mk _ _ _ k => k
theorem eta (x : Node) : mk x.op x.s x.n x.kids = x := by cases x; rfl
end Node
instance : Inhabited Node := ⟨.mk 0 ByteArray.empty 0 []⟩

/-- Codes of types. A struct: its fields, each before the rest, 'unit' at the end. -/
inductive Ty where
  | int (k : IntKind) | bool | str
  | row (e : Ty)
  | unit
  | pair (a b : Ty)
  | node
  deriving DecidableEq

/-- What a code stands for. -/
def Ty.C : Ty → Type
  | .int _ => Int
  | .bool => Bool
  | .str => ByteArray
  | .row e => List e.C
  | .unit => Unit
  | .pair a b => a.C × b.C
  | .node => Node

def Ty.dflt : (t : Ty) → t.C
  | .int _ => (0 : Int)
  | .bool => false
  | .str => ByteArray.empty
  | .row _ => []
  | .unit => ()
  | .pair a b => (a.dflt, b.dflt)
  | .node => Node.mk 0 ByteArray.empty 0 []

/-- How many cells. -/
def Ty.size : Ty → Nat
  | .unit => 0
  | .pair a b => a.size + b.size
  | .node => 4
  | _ => 1

def Ty.isAgg : Ty → Bool
  | .unit => true
  | .pair _ _ => true
  | .node => true
  | _ => false

def Ty.isUnit : Ty → Bool
  | .unit => true
  | _ => false

/-- Abstract values. -/
inductive AV where
  | undef
  | int (k : IntKind) (n : Int)
  | bool (b : Bool)
  | str (s : ByteArray)
  | nilp
  | fn (f : FuncId) (caps : List AV)
  | agg (cs : List AV)
  | tup (vs : List AV)
  /-- An address in the heap: row, element, cell. -/
  | ptr (id idx sub : Nat)
  /-- A whole row of the heap; a part of one. -/
  | sl (id : Nat)
  | ss (id off len : Nat)
  /-- A row inside an element of a row of the heap: row, element, cell. -/
  | dp (id idx sub : Nat)
  /-- An empty slice without room. -/
  | nils
  /-- A value that stays. -/
  | tv (t : Ty) (x : t.C)
  /-- The address of one that stays, and of a variable that stays. -/
  | tp (t : Ty) (x : t.C) (sub : Nat)
  | bp (cs : List AV) (sub : Nat)

instance : Inhabited AV := ⟨.undef⟩

/-- A typed value as it is told: what is one word, by itself. -/
def tvn : (t : Ty) → t.C → AV
  | .int k, n => .int k n
  | .bool, b => .bool b
  | .str, s => .str s
  | .row e, xs => .tv (.row e) xs
  | .unit, x => .tv .unit x
  | .pair a b, x => .tv (.pair a b) x
  | .node, x => .tv .node x

def cellsT : (t : Ty) → t.C → List AV
  | .int k, n => [.int k n]
  | .bool, b => [.bool b]
  | .str, s => [.str s]
  | .row e, xs => [.tv (.row e) xs]
  | .unit, _ => []
  | .pair a b, x => cellsT a x.1 ++ cellsT b x.2
  | .node, x => [.int .i64 (Node.op x), .str (Node.s x), .int .i64 (Node.n x), .tv (.row .node) (Node.kids x)]

def AV.cells : AV → List AV
  | .agg cs => cs
  | .tv t x => bif t.isAgg then cellsT t x else [.tv t x]
  | v => [v]

def AV.isAgg : AV → Bool
  | .agg _ => true
  | .tv t _ => t.isAgg
  | _ => false

/-- How many cells a value has. -/
def AV.size : AV → Nat
  | .agg cs => cs.length
  | .tv t _ => bif t.isAgg then t.size else 1
  | _ => 1

/-- A value of one cell. -/
def AV.one : AV → Bool
  | .undef => false
  | .agg _ => false
  | .tup _ => false
  | .tv t _ => !t.isAgg
  | _ => true

def Ty.cast {s t : Ty} (h : s = t) (x : s.C) : t.C := h ▸ x
/-- The same of rows. -/
def Ty.castR {s t : Ty} (h : s = t) (xs : List s.C) : List t.C := h ▸ xs

/-- A cell read as of a type. -/
def asOne : (t : Ty) → AV → Option t.C
  | .int k, .int k' n => if k = k' then some n else none
  | .bool, .bool b => some b
  | .str, .str s => some s
  | .row e, .tv t x => if h : t = .row e then some (Ty.cast h x) else none
  | .row _, .nils => some []
  | _, _ => none

def asCells : (t : Ty) → List AV → Option t.C
  | .unit, [] => some ()
  | .pair a b, cs => (asCells a (cs.take a.size)).bind fun x => (asCells b (cs.drop a.size)).map fun y => (x, y)
  | .node, [.int .i64 o, .str s, .int .i64 n, v] => (asOne (.row .node) v).map fun k => Node.mk o s n k
  | .int k, [v] => asOne (.int k) v
  | .bool, [v] => asOne .bool v
  | .str, [v] => asOne .str v
  | .row e, [v] => asOne (.row e) v
  | _, _ => none

/-- A value read as of a type. -/
def AV.as (t : Ty) : AV → Option t.C
  | .agg cs => bif t.isAgg then asCells t cs else none
  | .tv u x => if h : u = t then some (Ty.cast h x) else none
  | v => asOne t v

/-- What a load of so many cells finds in a typed value. -/
def partT (agg : Bool) (size : Nat) : (t : Ty) → t.C → Nat → Option AV
  | .pair a b, x, sub =>
    bif (sub == 0) && (size == a.size + b.size) && agg && !(b.isUnit && a.isAgg) then some (.tv (.pair a b) x)
    else bif Nat.blt sub a.size then partT agg size a x.1 sub else partT agg size b x.2 (sub - a.size)
  | .unit, _, _ => none
  | .node, x, sub =>
    bif (sub == 0) && (size == 4) && agg then some (.tv .node x)
    else bif agg then none else bif size == 1 then (cellsT .node x)[sub]? else none
  | t, x, sub => bif (sub == 0) && (size == 1) && !agg then some (tvn t x) else none

/-- The kinds of types that the interpreter knows. -/
inductive TK where
  | int (k : IntKind) | bool | str | slice (e : TypeId) | ptr (e : TypeId) | func
  | struct (fs : List (Nat × TypeId))

structure TI where
  kind : TK
  size : Nat
  bytes : Nat
  zero : AV
  /-- The code of its values that stay, where there is one. -/
  code : Option Ty
  /-- Are rows of it made deep: with what their elements lead to? -/
  deep : Bool := false

def TI.agg (t : TI) : Bool := match t.kind with | .struct _ => true | _ => false

/-- What a row of the heap holds: typed values that stay; or any, all of one size. -/
inductive Cont where
  | typed (e : Ty) (xs : List e.C)
  | raw (agg : Bool) (es : Nat) (d : AV) (xs : List AV)
  /-- Typed values, all that they lead to the row's own; 'fx': the slices in its cells stay. -/
  | deep (fx : Bool) (e : Ty) (xs : List e.C)

/-- What a load of a type finds among cells. -/
def partC (ti : TI) (cs : List AV) (off : Nat) : Option AV :=
  bif ti.agg then (bif Nat.ble (off + ti.size) cs.length then some (.agg ((cs.drop off).take ti.size)) else none)
  else bif ti.size == 1 then cs[off]? else none

/-- A struct's part. -/
def partV (ti : TI) (v : AV) (off : Nat) : Option AV :=
  match v with
  | .tv u y => bif u.isAgg then partT ti.agg ti.size u y off else none
  | .agg cs => partC ti cs off
  | _ => none

/-- A word inside a typed value. -/
def wordAt (t : Ty) (x : t.C) (sub : Nat) : Option AV :=
  match partT false 1 t x sub with
  | some (.int k n) => some (.int k n)
  | some (.bool b) => some (.bool b)
  | some (.str s) => some (.str s)
  | _ => none
/-- Does a cell hold a row? -/
def rowAt : Ty → Nat → Option Ty
  | .row e, 0 => some e
  | .pair a b, sub => bif Nat.blt sub a.size then rowAt a sub else rowAt b (sub - a.size)
  | _, _ => none
/-- A typed value, a word of it anew. -/
def setW : (t : Ty) → t.C → Nat → AV → Option t.C
  | .int k, _, 0, .int k' n => if k = k' then some n else none
  | .bool, _, 0, .bool b => some b
  | .str, _, 0, .str s => some s
  | .pair a b, x, sub, v => bif Nat.blt sub a.size then (setW a x.1 sub v).map fun y => (y, x.2) else (setW b x.2 (sub - a.size) v).map fun y => (x.1, y)
  | _, _, _, _ => none
/-- The row at a cell of a typed value. -/
def getR : (t : Ty) → t.C → Nat → (e : Ty) → Option (List e.C)
  | .row e, x, 0, f => if h : e = f then some (Ty.castR h x) else none
  | .pair a b, x, sub, f => bif Nat.blt sub a.size then getR a x.1 sub f else getR b x.2 (sub - a.size) f
  | _, _, _, _ => none
def setR : (t : Ty) → t.C → Nat → (e : Ty) → List e.C → t.C
  | .row e, x, 0, f, ys => if h : f = e then Ty.castR h ys else x
  | .pair a b, x, sub, f, ys => bif Nat.blt sub a.size then (setR a x.1 sub f ys, x.2) else (x.1, setR b x.2 (sub - a.size) f ys)
  | _, x, _, _, _ => x
def nodeless : Ty → Bool
  | .node => false
  | .pair a b => nodeless a && nodeless b
  | _ => true
/-- Words alone: nothing in it leads elsewhere. -/
def flatT : Ty → Bool
  | .int _ => true
  | .bool => true
  | .str => true
  | .unit => true
  | .pair a b => flatT a && flatT b
  | _ => false

/-- Do its elements lead to rows of the run's own? -/
def TI.rich (ti : TI) : Bool := ti.deep && (match ti.code with | some e => !flatT e && nodeless e | none => false)

namespace Cont
def len : Cont → Nat
  | .typed _ xs => xs.length
  | .raw _ _ _ xs => xs.length
  | .deep _ _ xs => xs.length
def get : Cont → Nat → AV
  | .typed e xs, i => tvn e (xs.getD i e.dflt)
  | .raw _ _ d xs, i => xs.getD i d
  | .deep .., _ => .undef
def isDeep : Cont → Bool
  | .deep .. => true
  | _ => false
def es : Cont → Nat
  | .typed e _ => e.size
  | .raw _ e _ _ => e
  | .deep _ e _ => e.size
def set : Cont → Nat → AV → Option Cont
  | .typed e xs, i, v => (v.as e).map fun x => .typed e (xs.set i x)
  | .raw a e d xs, i, v => bif (v.isAgg == a) && (v.size == e) then some (.raw a e d (xs.set i v)) else none
  | .deep .., _, _ => none
def cut : Cont → Nat → Nat → Cont
  | .typed e xs, lo, n => .typed e ((xs.drop lo).take n)
  | .raw a e d xs, lo, n => .raw a e d ((xs.drop lo).take n)
  | .deep fx e xs, lo, n => .deep fx e ((xs.drop lo).take n)
def app : Cont → Cont → Option Cont
  | .typed e xs, .typed f ys => if h : f = e then some (.typed e (xs ++ Ty.castR h ys)) else none
  | .raw a e d xs, .raw a' e' _ ys => bif (a == a') && (e == e') then some (.raw a e d (xs ++ ys)) else none
  | _, _ => none
def snoc (c : Cont) (v : AV) : Option Cont :=
  match c with
  | .typed e xs => bif v.cells.all AV.one then (v.as e).map fun x => .typed e (xs ++ [x]) else none
  | .raw a e d xs => bif (v.isAgg == a) && (v.size == e) && v.cells.all AV.one then some (.raw a e d (xs ++ [v])) else none
  | .deep .. => none
def ofL : List AV → Cont → Option Cont
  | [], c => some c
  | v :: vs, c => (c.snoc v).bind fun c' => ofL vs c'
/-- What a load finds at a cell of an element. -/
def part (ti : TI) : Cont → Nat → Nat → Option AV
  | .typed e xs, i, sub => partT ti.agg ti.size e (xs.getD i e.dflt) sub
  | .raw a es d xs, i, sub =>
    bif (sub == 0) && (ti.size == es) && (ti.agg == a) then some (xs.getD i d) else partC ti (xs.getD i d).cells sub
  | .deep _ e xs, i, sub => bif !ti.agg && (ti.size == 1) then wordAt e (xs.getD i e.dflt) sub else none
end Cont

structure Obj where
  c : Cont
  /-- Has its array no room for more? -/
  full : Bool

abbrev Heap := List (Option Obj)

/-- What the interpreter is told: types; which functions have a contract of their own; the slots that live at a region's begin. -/
abbrev Con := (ρ : Type) → List AV → Heap → (AV → Heap → Bool → Option ρ) → Option ρ
structure Env where
  ty : TypeId → Option TI
  con : FuncId → Option Con
  live : FuncId → Nat → Option (List Nat)

def lim : Nat := 35184372088832

def ofVal : Value → AV
  | .int k n => .int k n
  | .bool b => .bool b
  | .string s => .str s
  | .pointer none => .nilp
  | .slice none 0 0 => .nils
  | _ => .undef

def aeval (s : List AV) : Operand → AV
  | .tmp t => s.getD t .undef
  | .const v => ofVal v
  | .func f => .fn f []
  | .global _ => .undef

def hget (h : Heap) (id : Nat) : Option Obj := h.getD id none

/-- An empty row of a type. -/
def Cont.empty (ti : TI) : Cont :=
  match ti.code with
  | some e => .typed e []
  | none => .raw ti.agg ti.size ti.zero []

/-- So many zeros of a type. -/
def Cont.fill (ti : TI) (n : Nat) : Cont :=
  match ti.code with
  | some e => bif ti.deep && (!flatT e && nodeless e) then .deep false e (List.replicate n e.dflt) else .typed e (List.replicate n e.dflt)
  | none => .raw ti.agg ti.size ti.zero (List.replicate n ti.zero)

/-- What a slice value holds. -/
def rowOf (h : Heap) : AV → Option Cont
  | .sl id => (hget h id).map (·.c)
  | .ss id off n => (hget h id).map fun o => o.c.cut off n
  | .tv (.row e) xs => some (.typed e xs)
  | _ => none

def lenOf (h : Heap) : AV → Option Nat
  | .sl id => (hget h id).map (·.c.len)
  | .ss id _ n => (hget h id).map fun _ => n
  | .tv (.row _) xs => some (List.length xs)
  | .nils => some 0
  | _ => none

def splice (cs : List AV) (off : Nat) (vs : List AV) : List AV := cs.take off ++ (vs ++ cs.drop (off + vs.length))

def kindOf (E : Env) (t : TypeId) : Option TK := (E.ty t).map (·.kind)

/-- Are two structs of words one? Field by field. -/
def eqCells (E : Env) : List (Nat × TypeId) → List AV → List AV → Option Bool
  | [], [], [] => some true
  | (_, t) :: fs, .int k a :: xs, .int k' b :: ys =>
    (match kindOf E t with
     | some (.int _) => if k = k' then (eqCells E fs xs ys).map (fun r => (a == b) && r) else none
     | _ => none)
  | (_, t) :: fs, .bool a :: xs, .bool b :: ys =>
    (match kindOf E t with
     | some .bool => (eqCells E fs xs ys).map (fun r => (a == b) && r)
     | _ => none)
  | (_, t) :: fs, .str a :: xs, .str b :: ys =>
    (match kindOf E t with
     | some .str => (eqCells E fs xs ys).map (fun r => (a.toList == b.toList) && r)
     | _ => none)
  | _, _, _ => none

section ops
variable {ρ : Type}

def abinInt (op : BinOp) (k : IntKind) (a b : Int) (K : AV → Option ρ) : Option ρ :=
  match op with
  | .add => K (.int k (k.wrap (a + b)))
  | .sub => K (.int k (k.wrap (a - b)))
  | .mul => K (.int k (k.wrap (a * b)))
  | .quo => bif b == 0 then none else K (.int k (k.wrap (a.tdiv b)))
  | .rem => bif b == 0 then none else K (.int k (a.tmod b))
  | .and => K (.int k (k.wrap (BitVec.ofInt k.bits a &&& BitVec.ofInt k.bits b).toNat))
  | .or => K (.int k (k.wrap (BitVec.ofInt k.bits a ||| BitVec.ofInt k.bits b).toNat))
  | .xor => K (.int k (k.wrap (BitVec.ofInt k.bits a ^^^ BitVec.ofInt k.bits b).toNat))
  | .eql => K (.bool (a == b))
  | .neq => K (.bool (a != b))
  | .lss => K (.bool (decide (a < b)))
  | .leq => K (.bool (decide (a ≤ b)))
  | .gtr => K (.bool (decide (a > b)))
  | .geq => K (.bool (decide (a ≥ b)))
  | _ => none

def ashift (op : BinOp) (k : IntKind) (a b : Int) (K : AV → Option ρ) : Option ρ :=
  bif decide (b < 0) then none else
  match op with
  | .shl => K (.int k (k.wrap (a * 2 ^ (min b.toNat k.bits))))
  | .shr => K (.int k (a.fdiv (2 ^ (min b.toNat k.bits))))
  | _ => none

def abinStr (op : BinOp) (a b : ByteArray) (K : AV → Option ρ) : Option ρ :=
  match op with
  | .add => bif decide (a.size + b.size ≤ 9223372036854775807) then K (.str (a ++ b)) else none
  | .eql => K (.bool (a.toList == b.toList))
  | .neq => K (.bool (!(a.toList == b.toList)))
  | .lss => K (.bool (Op.bytesLess a.toList b.toList))
  | .leq => K (.bool (Op.bytesLess a.toList b.toList || a.toList == b.toList))
  | .gtr => K (.bool (!(Op.bytesLess a.toList b.toList || a.toList == b.toList)))
  | .geq => K (.bool (!(Op.bytesLess a.toList b.toList)))
  | _ => none

def isEq : BinOp → Option Bool
  | .eql => some true
  | .neq => some false
  | _ => none

def eqKind (E : Env) (t : TypeId) (op : BinOp) : Option (Bool × TK) :=
  match isEq op, E.ty t with
  | some e, some ti => some (e, ti.kind)
  | _, _ => none

def isAddr : AV → Bool
  | .ptr _ _ _ => true
  | .tp _ _ _ => true
  | .bp _ _ => true
  | _ => false

def abin (E : Env) (op : BinOp) (t : TypeId) (x y : AV) (K : AV → Option ρ) : Option ρ :=
  match x, y with
  | .int k a, .int k' b =>
    (match op with
     | .shl => ashift .shl k a b K
     | .shr => ashift .shr k a b K
     | op => if k = k' then abinInt op k a b K else none)
  | .str a, .str b => abinStr op a b K
  | .bool a, .bool b => (match eqKind E t op with | some (e, .bool) => K (.bool (bif e then a == b else !(a == b))) | _ => none)
  | x, y =>
    (match eqKind E t op with
     | some (e, .struct fs) =>
       bif x.isAgg && y.isAgg && (fs.zipIdx.all fun p => p.1.1 == p.2) then
       (match eqCells E fs x.cells y.cells with
        | some r => K (.bool (bif e then r else !r))
        | none => none) else none
     | some (e, .ptr _) =>
       (match x, y with
        | .nilp, .nilp => K (.bool e)
        | .nilp, y => bif isAddr y then K (.bool (!e)) else none
        | x, .nilp => bif isAddr x then K (.bool (!e)) else none
        | _, _ => none)
     | _ => none)

def aun (op : UnOp) (x : AV) (K : AV → Option ρ) : Option ρ :=
  match op, x with
  | .neg, .int k n => K (.int k (k.wrap (0 - n)))
  | .not, .bool b => K (.bool (!b))
  | _, _ => none

def bytesVal (xs : List Int) : ByteArray := ⟨(xs.map fun n => UInt8.ofNat n.toNat).toArray⟩
def valBytes (s : ByteArray) : List Int := s.data.toList.map fun b => (b.toNat : Int)
def byteAt (s : ByteArray) (i : Nat) : Int := match s[i]? with | some b => (b.toNat : Int) | none => 0

def aconv (E : Env) (src dst : TypeId) (x : AV) (h : Heap) (K : AV → Heap → Bool → Option ρ) : Option ρ :=
  match kindOf E src, kindOf E dst, x with
  | some (.int _), some (.int k), .int _ n => K (.int k (k.wrap n)) h false
  | some (.int _), some TK.str, .int _ n => K (.str (Utf8.encode n)) h false
  | some TK.str, some TK.str, .str s => K (.str s) h false
  | some TK.str, some (.slice e), .str s =>
    (match kindOf E e with
     | some (.int .u8) => K (.sl h.length) (h ++ [some ⟨.typed (.int .u8) (valBytes s), false⟩]) false
     | _ => none)
  | some (.slice e), some TK.str, x =>
    (match kindOf E e, rowOf h x with
     | some (.int .u8), some (.typed (.int .u8) xs) => K (.str (bytesVal xs)) h false
     | _, _ => none)
  | _, _, _ => none

/-- Bounds of a cut: both in their places, or nothing. -/
def withBounds (lo hi : Option AV) (len : Nat) (K : Nat → Nat → Option ρ) : Option ρ :=
  match hi with
  | some (.int _ b) =>
    bif decide (0 ≤ b) then bif decide (b ≤ (len : Int)) then
      (match lo with
       | some (.int _ a) => bif decide (0 ≤ a) then bif decide (a ≤ b) then K a.toNat b.toNat else none else none
       | none => K 0 b.toNat
       | _ => none) else none else none
  | none =>
      (match lo with
       | some (.int _ a) => bif decide (0 ≤ a) then bif decide (a ≤ (len : Int)) then K a.toNat len else none else none
       | none => K 0 len
       | _ => none)
  | _ => none

/-- How many cells a slice's element has. -/
def esOf (h : Heap) : AV → Option Nat
  | .sl id => (hget h id).map (·.c.es)
  | .ss id _ _ => (hget h id).map (·.c.es)
  | .tv (.row e) _ => some e.size
  | _ => none

/-- Of a slice type: is an element of it what the row's elements are? -/
def fits (E : Env) (t : TypeId) (x : AV) (h : Heap) : Bool :=
  match kindOf E t with
  | some (.slice e) => (match E.ty e, esOf h x with | some ti, some n => ti.size == n | _, _ => false)
  | _ => false

def isZero : Option AV → Bool
  | some (.int _ 0) => true
  | _ => false

def aslice (E : Env) (t : TypeId) (x : AV) (lo hi mx : Option AV) (h : Heap) (K : AV → Heap → Bool → Option ρ) : Option ρ :=
  match kindOf E t, x with
  | some TK.str, .str s => bif mx.isNone then withBounds lo hi s.size fun a b => K (.str (s.extract a b)) h false else none
  | some (.slice e), x =>
    bif (E.ty e).isNone then none else
    bif isZero mx then bif lo.isNone && isZero hi then (match lenOf h x with | some _ => K .nils h false | none => none) else none
    else bif mx.isNone then
    (match x with
     | .sl id =>
       (match hget h id with
        | some o => bif fits E t x h then withBounds lo hi o.c.len fun a b => K (.ss id a (b - a)) h false else none
        | none => none)
     | .ss id off n => bif fits E t x h then withBounds lo hi n fun a b => K (.ss id (off + a) (b - a)) h false else none
     | .tv (.row e) xs => bif fits E t x h then withBounds lo hi (List.length xs) fun a b => K (.tv (.row e) (List.take (b - a) (List.drop a xs))) h false else none
     | .nils => withBounds lo hi 0 fun _ _ => K .nils h false
     | _ => none)
    else none
  | _, _ => none

def aindexAddr (E : Env) (t : TypeId) (x : AV) (i : Int) (h : Heap) (K : AV → Heap → Bool → Option ρ) : Option ρ :=
  bif fits E t x h then
  (match x with
  | .sl id =>
    (match hget h id with
     | some o => bif decide (0 ≤ i) then bif decide (i < (o.c.len : Int)) then K (.ptr id i.toNat 0) h false else none else none
     | none => none)
  | .ss id off n => bif decide (0 ≤ i) then bif decide (i < (n : Int)) then K (.ptr id (off + i.toNat) 0) h false else none else none
  | .tv (.row e) xs => bif decide (0 ≤ i) then bif decide (i < (List.length xs : Int)) then K (.tp e (List.getD xs i.toNat e.dflt) 0) h false else none else none
  | _ => none)
  else none

/-- Does a load find a row inside a deep row's element? -/
def dpOk (ti : TI) (c : Cont) (sub : Nat) : Bool :=
  match c with
  | .deep true e _ => !ti.agg && (ti.size == 1) && (rowAt e sub).isSome
  | _ => false

/-- Values taken one by one. -/
def takeL {α : Type} (f : List AV → Option (α × List Nat)) : List AV → Option (List α × List Nat)
  | [] => some ([], [])
  | v :: vs => (f v.cells).bind fun x => (takeL f vs).map fun y => (x.1 :: y.1, x.2 ++ y.2)

/-- A new value of cells, taken out of the heap: the typed value, and the rows that it takes. -/
def takeT (h : Heap) : (t : Ty) → List AV → Option (t.C × List Nat)
  | .int k, [.int k' n] => if k = k' then some (n, []) else none
  | .bool, [.bool b] => some (b, [])
  | .str, [.str s] => some (s, [])
  | .row e, [.nils] => bif Nat.blt 0 e.size then some ([], []) else none
  | .row e, [.sl id] =>
    (match hget h id with
     | some ⟨.deep _ f xs, _⟩ => if hf : f = e then some (Ty.castR hf xs, [id]) else none
     | some ⟨.typed f xs, _⟩ => if hf : f = e then (bif flatT e || xs.isEmpty then some (Ty.castR hf xs, [id]) else none) else none
     | some ⟨.raw a es _ vs, _⟩ => bif (a == e.isAgg) && (es == e.size) then (takeL (takeT h e) vs).map fun y => (y.1, id :: y.2) else none
     | none => none)
  | .unit, [] => some ((), [])
  | .pair a b, cs => (takeT h a (cs.take a.size)).bind fun x => (takeT h b (cs.drop a.size)).map fun y => ((x.1, y.1), x.2 ++ y.2)
  | _, _ => none

def killAll (h : Heap) : List Nat → Heap
  | [] => h
  | id :: ids => killAll (h.set id none) ids

/-- Is each number there once? -/
def once : List Nat → Bool
  | [] => true
  | x :: xs => !xs.contains x && once xs

/-- What a store into a deep row leaves. -/
def storeD (ti : TI) (h : Heap) (id idx sub : Nat) (fx : Bool) (e : Ty) (xs : List e.C) (full : Bool) (v : AV) : Option Heap :=
  (match setW e (xs.getD idx e.dflt) sub v with
   | some x => bif (ti.size == 1) && !ti.agg then some (h.set id (some ⟨.deep fx e (xs.set idx x), full⟩)) else none
   | none =>
     bif !fx && (sub == 0) && (ti.size == e.size) && (ti.agg == e.isAgg) && (v.size == e.size) && (v.isAgg == e.isAgg) then
     (match takeT h e v.cells with
      | some (x, ids) => bif once ids && !ids.contains id then some ((killAll h ids).set id (some ⟨.deep fx e (xs.set idx x), full⟩)) else none
      | none => none) else none)

def aload (E : Env) (t : TypeId) (x : AV) (h : Heap) (K : AV → Option ρ) : Option ρ :=
  match E.ty t with
  | none => none
  | some ti =>
    match x with
    | .ptr id idx sub =>
      (match hget h id with
       | some o => bif dpOk ti o.c sub then K (.dp id idx sub) else (match o.c.part ti idx sub with | some v => K v | none => none)
       | none => none)
    | .tp e y sub => (match partT ti.agg ti.size e y sub with | some v => K v | none => none)
    | .bp cs sub => (match partC ti cs sub with | some v => K v | none => none)
    | _ => none

/-- What a store of a value leaves at an element. -/
def stored (ti : TI) (es : Nat) (e : AV) (sub : Nat) (v : AV) : AV :=
  bif (sub == 0) && (ti.size == es) && (ti.agg == e.isAgg) then v else .agg (splice e.cells sub v.cells)

def astore (E : Env) (t : TypeId) (x v : AV) (h : Heap) (K : Heap → Option ρ) : Option ρ :=
  match E.ty t, x with
  | some ti, .ptr id idx sub =>
    (match hget h id with
     | some ⟨.deep fx e xs, full⟩ => (match storeD ti h id idx sub fx e xs full v with | some h' => K h' | none => none)
     | some o =>
       bif (v.size == ti.size) && (v.isAgg == ti.agg) && v.cells.all AV.one && Nat.ble (sub + ti.size) o.c.es then
         (match o.c.set idx (stored ti o.c.es (o.c.get idx) sub v) with
          | some c => K (h.set id (some { o with c }))
          | none => none)
       else none
     | none => none)
  | _, _ => none

def foldParts (fs : List (Nat × TypeId)) (E : Env) : List (Nat × AV) → List AV → Option (List AV)
  | [], cs => some cs
  | (i, v) :: rest, cs =>
    match fs[i]? with
    | none => none
    | some (off, t) =>
      match E.ty t with
      | none => none
      | some ti => bif (v.size == ti.size) && v.cells.all AV.one && Nat.ble (off + v.size) cs.length then foldParts fs E rest (splice cs off v.cells) else none

def ascending : List (Nat × AV) → Nat → Bool
  | [], _ => true
  | (i, _) :: rest, k => (i == k) && ascending rest (k + 1)

def Cont.isNil : Cont → Bool
  | .typed _ [] => true
  | .raw _ _ _ [] => true
  | _ => false

/-- What is appended. -/
def srcOf (ti : TI) (h : Heap) (y : AV) : Option Cont := match y with | .nils => some (Cont.empty ti) | .str s => some (.typed (.int .u8) (valBytes s)) | y => rowOf h y

/-- One row behind another. -/
abbrev catR (t : Ty) (xs ys : List t.C) : List t.C := xs ++ ys

/-- Is that a row of values as they are told? -/
def isRaw (h : Heap) : AV → Bool
  | .sl id => (match hget h id with | some ⟨.raw _ _ _ _, _⟩ => true | _ => false)
  | _ => false

def isDp (h : Heap) : AV → Bool
  | .sl id => (match hget h id with | some ⟨.deep _ _ _, _⟩ => true | _ => false)
  | _ => false

/-- An append to a row with all that its elements lead to: both are taken. -/
def aappendD (ti : TI) (x y : AV) (h : Heap) (K : AV → Heap → Bool → Option ρ) : Option ρ :=
  match ti.code with
  | none => none
  | some t =>
    (match takeT h (.row t) [x], takeT h (.row t) [y] with
     | some (xs, i1), some (ys, i2) =>
       bif once (i1 ++ i2) && (t.size == ti.size) && Nat.blt 0 (List.length ys) && Nat.blt 0 ti.size && Nat.blt 0 ti.bytes then
       bif decide (List.length (catR t xs ys) * ti.bytes ≤ lim) then K (.sl h.length) (killAll h (i1 ++ i2) ++ [some ⟨.deep false t (catR t xs ys), false⟩]) true else none else none
     | _, _ => none)

/-- The row that an append makes of what came first. -/
def aappend (E : Env) (e : TypeId) (x y : AV) (h : Heap) (K : AV → Heap → Bool → Option ρ) : Option ρ :=
  match E.ty e with
  | none => none
  | some ti =>
    bif ti.deep && (isRaw h y || isDp h x || isDp h y) then aappendD ti x y h K else
    bif Nat.blt 0 ti.size && Nat.blt 0 ti.bytes then
    (match srcOf ti h y with
     | none => none
     | some ys =>
       (match x with
        | .sl id =>
          (match hget h id with
           | some o =>
             bif (o.c.es == ti.size) && (ys.es == ti.size) then
             (match o.c.app ys with
              | some c => bif decide (c.len * ti.bytes ≤ lim) then
                  (bif o.full && o.c.isNil then K (.sl h.length) (h ++ [some ⟨c, false⟩]) false
                   else K (.sl h.length) (h.set id none ++ [some ⟨c, false⟩]) true) else none
              | none => none) else none
           | none => none)
        | .ss id off n =>
          (match hget h id with
           | some o =>
             bif (o.c.es == ti.size) && (ys.es == ti.size) then
             (match (o.c.cut off n).app ys with
              | some c => bif decide (c.len * ti.bytes ≤ lim) then K (.sl h.length) (h.set id none ++ [some ⟨c, false⟩]) true else none
              | none => none) else none
           | none => none)
        | .nils =>
          bif (ys.es == ti.size) then
          (match (Cont.empty ti).app ys with
           | some c => bif decide (c.len * ti.bytes ≤ lim) then K (.sl h.length) (h ++ [some ⟨c, false⟩]) false else none
           | none => none) else none
        | _ => none))
    else none

/-- A row whose head is put anew. -/
def Cont.over (c ys : Cont) : Option Cont :=
  match c, ys with
  | .typed e xs, .typed f zs => if h : f = e then some (.typed e (List.take xs.length (Ty.castR h zs) ++ List.drop (List.length zs) xs)) else none
  | .raw a e d xs, .raw a' e' _ zs => bif (a == a') && (e == e') then some (.raw a e d (zs.take xs.length ++ xs.drop zs.length)) else none
  | _, _ => none

def abest (op : Int → Int → Int) (k : IntKind) : Int → List AV → Option Int
  | x, [] => some x
  | x, .int k' y :: rest => if k = k' then abest op k (op x y) rest else none
  | _, _ => none

def mx (x y : Int) : Int := bif decide (y > x) then y else x
def mn (x y : Int) : Int := bif decide (y < x) then y else x

def abuiltin (E : Env) (b : Builtin) (ts : List TypeId) (xs : List AV) (h : Heap) (K : AV → Heap → Bool → Option ρ) : Option ρ :=
  match b, xs, ts with
  | .append, [x, y], t :: u :: _ =>
       (match kindOf E t, kindOf E u with
        | some (.slice e), some (.slice _) => aappend E e x y h K
        | some (.slice e), some TK.str => aappend E e x y h K
        | _, _ => none)
  | .len, [x], t :: _ =>
       (match kindOf E t, x with
        | some TK.str, .str s => K (.int .i64 (s.size : Int)) h false
        | some (.slice _), x => (match lenOf h x with | some n => K (.int .i64 (n : Int)) h false | none => none)
        | _, _ => none)
  | .max, .int k x :: rest, _ => (match abest mx k x rest with | some n => K (.int k n) h false | none => none)
  | .min, .int k x :: rest, _ => (match abest mn k x rest with | some n => K (.int k n) h false | none => none)
  | .copy, [.sl id, y], t :: _ =>
       (match kindOf E t, hget h id with
        | some (.slice _), some o =>
          bif fits E t (.sl id) h then
          (match y with
           | .nils => K (.int .i64 0) h false
           | y =>
             (match rowOf h y with
              | some ys =>
                (match o.c.over ys with
                 | some c => K (.int .i64 ((min ys.len o.c.len : Nat) : Int)) (h.set id (some { o with c })) true
                 | none => none)
              | none => none)) else none
        | _, _ => none)
  | .clear, [.sl id], t :: _ =>
       (match kindOf E t, hget h id with
        | some (.slice e), some o =>
          (match E.ty e with
           | some ti => bif (o.c.es == ti.size) && !ti.deep then K (.tup []) (h.set id (some { o with c := Cont.fill ti o.c.len })) true else none
           | none => none)
        | _, _ => none)
  | _, _, _ => none

/-- What a call does: callee, args, heap; and whether it may have changed what was there. -/
abbrev Call (ρ : Type) := FuncId → List AV → Heap → (AV → Heap → Bool → Option ρ) → Option ρ

def aop (E : Env) (call : Call ρ) (s : List AV) (h : Heap) (op : Op) (K : AV → Heap → Bool → Option ρ) : Option ρ :=
  match op with
  | .move x => K (aeval s x) h false
  | .assign x => K (aeval s x) h false
  | .pick c a b =>
    (match aeval s c with
     | .bool t => bif t then K (aeval s a) h false else K (aeval s b) h false
     | _ => none)
  | .alloc t => (match E.ty t with | some ti => K (.ptr h.length 0 0) (h ++ [some ⟨.raw ti.agg ti.size ti.zero [ti.zero], true⟩]) false | none => none)
  | .box t x =>
    (match E.ty t with
     | some ti => bif ((aeval s x).isAgg == ti.agg) && ((aeval s x).size == ti.size) && (aeval s x).cells.all AV.one then K (.ptr h.length 0 0) (h ++ [some ⟨.raw ti.agg ti.size ti.zero [aeval s x], true⟩]) false else none
     | none => none)
  | .build t ps =>
    (match E.ty t with
     | some ⟨.struct fs, _, _, z, _, _⟩ =>
       (match foldParts fs E (ps.toList.map fun p => (p.1, aeval s p.2)) z.cells with
        | some cs => K (.agg cs) h false
        | none => none)
     | _ => none)
  | .buildSlice t n ps =>
    (match kindOf E t with
     | some (.slice e) =>
       (match E.ty e with
        | some ti =>
          bif ascending (ps.toList.map fun p => (p.1, aeval s p.2)) 0 && (ps.size == n) && Nat.ble (n * ti.size) 16777216 then
          (match Cont.ofL (ps.toList.map fun p => aeval s p.2) (bif ti.rich && Nat.blt 0 n then Cont.raw ti.agg ti.size ti.zero [] else Cont.empty ti) with
           | some c => K (.sl h.length) (h ++ [some ⟨c, true⟩]) false
           | none => none) else none
        | none => none)
     | _ => none)
  | .load t a => aload E t (aeval s a) h fun v => K v h false
  | .store t a x => astore E t (aeval s a) (aeval s x) h fun h' => K .undef h' true
  | .nilCheck x =>
    (match aeval s x with
     | .ptr i j l => K (.ptr i j l) h false
     | .tp t y j => K (.tp t y j) h false
     | .bp cs j => K (.bp cs j) h false
     | .fn f cs => K (.fn f cs) h false
     | _ => none)
  | .binOp op t x y _ => abin E op t (aeval s x) (aeval s y) fun v => K v h false
  | .unOp op _ x => aun op (aeval s x) fun v => K v h false
  | .convert src dst x => aconv E src dst (aeval s x) h K
  | .makeFunc (.func f) first caps => bif first.size == 0 then K (.fn f (caps.toList.map (aeval s))) h false else none
  | .makeSlice t l c =>
    (match kindOf E t, aeval s l, aeval s c with
     | some (.slice e), .int _ n, .int _ m =>
       (match E.ty e with
        | some ti =>
          bif decide (0 ≤ n) then bif decide (n ≤ m) then bif decide (m * ti.bytes ≤ (lim : Int)) then bif decide (m ≤ (lim : Int)) && Nat.blt 0 ti.size then
          K (.sl h.length) (h ++ [some ⟨Cont.fill ti n.toNat, false⟩]) false else none else none else none else none
        | none => none)
     | _, _, _ => none)
  | .slice t x lo hi mx => aslice E t (aeval s x) (lo.map (aeval s)) (hi.map (aeval s)) (mx.map (aeval s)) h K
  | .fieldAddr t x j =>
    (match E.ty t with
     | some ⟨.struct fs, _, _, _, _, _⟩ =>
       (match fs[j]? with
        | some (off, _) =>
          (match aeval s x with
           | .ptr id idx sub => K (.ptr id idx (sub + off)) h false
           | .tp t y sub => K (.tp t y (sub + off)) h false
           | .bp cs sub => K (.bp cs (sub + off)) h false
           | _ => none)
        | none => none)
     | _ => none)
  | .field t x j =>
    (match E.ty t with
     | some ⟨.struct fs, _, _, _, _, _⟩ =>
       (match fs[j]? with
        | some (off, ft) =>
          (match E.ty ft with
           | some ti => (match partV ti (aeval s x) off with | some v => K v h false | none => none)
           | none => none)
        | none => none)
     | _ => none)
  | .indexAddr t x i => (match aeval s i with | .int _ n => aindexAddr E t (aeval s x) n h K | _ => none)
  | .index t x i =>
    (match kindOf E t, aeval s x, aeval s i with
     | some TK.str, .str b, .int _ n => bif decide (0 ≤ n) then bif decide (n < (b.size : Int)) then K (.int .u8 (byteAt b n.toNat)) h false else none else none
     | _, _, _ => none)
  | .extract x j => (match aeval s x with | .tup vs => (match vs[j]? with | some v => K v h false | none => none) | _ => none)
  | .call c =>
    (match c.callee with
     | .builtin b => abuiltin E b c.argTypes.toList (c.args.toList.map (aeval s)) h K
     | .value f =>
       (match aeval s f with
        | .fn g caps => call g (c.args.toList.map (aeval s) ++ caps) h K
        | _ => none)
     | _ => none)
  | _ => none

structure St where
  s : List AV
  h : Heap

def putSlot (s : List AV) (dst : Option Nat) (v : AV) : List AV :=
  match dst with
  | some d => s.set d v
  | none => s

/-- Does an operation look into memory, or make some? -/
def heapy : Op → Bool
  | .alloc _ | .box _ _ | .buildSlice .. | .load .. | .store .. | .convert .. | .makeSlice .. | .indexAddr .. | .slice .. | .call _ => true
  | _ => false

/-- Does a value tell of a row of the heap? So many levels deep. -/
def tells (id : Nat) : Nat → AV → Bool
  | 0, _ => true
  | d + 1, v =>
    match v with
    | .ptr i _ _ => i == id
    | .sl i => i == id
    | .ss i _ _ => i == id
    | .dp i _ _ => i == id
    | .agg cs => cs.any (tells id d)
    | .tup vs => vs.any (tells id d)
    | .fn _ cs => cs.any (tells id d)
    | .bp cs _ => cs.any (tells id d)
    | _ => false

/-- Does one of them? -/
def touch (id : Nat) (vs : List AV) : Bool := vs.any (tells id 4)

/-- What touches all. -/
def allV : AV := .tup [.tup [.tup [.tup [.undef]]]]

/-- What an operation is given; where it may be led on by a row of rows: all. -/
def opVals (s : List AV) (h : Heap) (op : Op) : List AV :=
  bif (op.operands.toList.map (aeval s)).any (fun v => v.cells.any (isRaw h)) then allV :: op.operands.toList.map (aeval s) else op.operands.toList.map (aeval s)

/-- The rows of the heap that an operation looks at, and no more; none: it may look at all, or make some. -/
def lookOf (s : List AV) (op : Op) : Option (List Nat) :=
  match op with
  | .load _ a => (match aeval s a with | .ptr id _ _ => some [id] | .tp _ _ _ => some [] | .bp _ _ => some [] | _ => none)
  | .slice _ x _ _ _ => (match aeval s x with | .str _ => some [] | .tv _ _ => some [] | .nils => some [] | .sl id => some [id] | .ss id _ _ => some [id] | _ => none)
  | .indexAddr _ x _ => (match aeval s x with | .tv _ _ => some [] | .sl id => some [id] | .ss id _ _ => some [id] | _ => none)
  | .convert _ _ x => (match aeval s x with | .int _ _ => some [] | _ => none)
  | op => bif heapy op then none else some []

/-- What is known of an operation that ran: did it change what was there, what was it given, what did it look at. -/
structure Mk where
  m : Bool
  t : List AV
  l : Option (List Nat)

/-- A region's operations in the text's order, with the marks of each. -/
def aops (E : Env) (call : Call ρ) (all : Array Oper) : List Oper → List Mk → St → (List Mk → St → Option ρ) → Option ρ
  | [], ms, st, K => K ms st
  | o :: rest, ms, st, K =>
    match o.guard with
    | none => aop E call st.s st.h o.op fun v h m => aops E call all rest (ms ++ [⟨m, opVals st.s st.h o.op, lookOf st.s o.op⟩]) ⟨putSlot st.s o.dst v, h⟩ K
    | some (j, want) =>
      match (all[j]?).bind (·.dst) with
      | some d =>
        (match st.s.getD d .undef with
         | .bool b =>
           bif (bif want then b else !b) then aop E call (st.s.set d (.bool want)) st.h o.op fun v h m => aops E call all rest (ms ++ [⟨m, opVals st.s st.h o.op, lookOf st.s o.op⟩]) ⟨putSlot (st.s.set d (.bool want)) o.dst v, h⟩ K
           else aops E call all rest (ms ++ [⟨false, [], some []⟩]) ⟨putSlot (st.s.set d (.bool !want)) o.dst (.tup []), st.h⟩ K
         | .tup _ => aops E call all rest (ms ++ [⟨false, [], some []⟩]) ⟨putSlot st.s o.dst (.tup []), st.h⟩ K
         | _ => none)
      | none => none

/-- Is one of two operations, not of one place, bound to go ahead: the earlier in the text? -/
def ahead (bs : List Nat) (i j : Nat) : Bool := bif Nat.blt i j then (bs.getD j 0).testBit i else (bs.getD i 0).testBit j

/-- Does each edge lead back in the text? -/
def backOk (ops : Array Oper) : Bool :=
  (List.range ops.size).all fun i => match ops[i]? with | some o => o.after.toList.all fun e => !Region.binds .any e || Nat.blt e.on i | none => true

/-- Is each slot written once, and ordered against all that look at it? -/
def dataOk (ops : Array Oper) (bs : List Nat) : Bool :=
  (List.range ops.size).all fun i => match (ops[i]?).bind (·.dst) with
    | none => true
    | some d => (List.range ops.size).all fun j => match ops[j]? with
      | none => true
      | some o => (i == j) || ((o.dst != some d) && (!(o.looksAt ops).contains d || ahead bs i j))

/-- May an operation that looks see what a change does? 'n': how many rows there were ahead of the region. -/
def meets (n : Nat) (t : List AV) (l : Option (List Nat)) : Bool :=
  match l with
  | none => true
  | some l => !(l.all fun id => Nat.blt id n && !touch id t)

/-- Is each operation that changed memory ordered against all that may see it? -/
def orderOk (n : Nat) (ops : Array Oper) (bs : List Nat) (ms : List Mk) : Bool :=
  (List.range ops.size).all fun i => match ms[i]? with
    | none => true
    | some a => !a.m || (List.range ops.size).all fun j => (i == j) || (match ms[j]? with | none => true | some b => !meets n a.t b.l) || ahead bs i j

def drawOk (n : Nat) (ops : Array Oper) (ms : List Mk) : Bool :=
  let bs := (Region.before ops).toList
  backOk ops && dataOk ops bs && (bif ms.any (·.m) then orderOk n ops bs ms else true)

def aregion (E : Env) (call : Bool → Call ρ) (ops : Array Oper) (draw : Bool) (st : St) (K : St → Option ρ) : Option ρ :=
  aops E (call draw) ops ops.toList [] st fun ms st' => bif !draw || drawOk st.h.length ops ms then K st' else none

inductive Out where
  | normal
  | exit (id : Nat)
  | ret

/-! Values anew: another numbering of the heap, with what is not told struck. -/

def findIx (id : Nat) : List Nat → Nat → Option Nat
  | [], _ => none
  | x :: xs, k => bif x == id then some k else findIx id xs (k + 1)

/-- A value under a new numbering: 'd' levels deep. -/
def ren (r : Nat → Option Nat) : Nat → AV → AV
  | 0, _ => .undef
  | d + 1, v =>
    match v with
    | .ptr id i j => (match r id with | some id' => .ptr id' i j | none => .undef)
    | .sl id => (match r id with | some id' => .sl id' | none => .undef)
    | .ss id off n => (match r id with | some id' => .ss id' off n | none => .undef)
    | .dp id i j => (match r id with | some id' => .dp id' i j | none => .undef)
    | .agg cs => .agg (cs.map (ren r d))
    | .tup vs => .tup (vs.map (ren r d))
    | .fn f cs => .fn f (cs.map (ren r d))
    | .bp cs j => .bp (cs.map (ren r d)) j
    | v => v

def renC (r : Nat → Option Nat) (d : Nat) : Cont → Cont
  | .raw a e z xs => .raw a e (ren r d z) (xs.map (ren r d))
  | c => c

def renO (r : Nat → Option Nat) (o : Obj) : Obj := { o with c := renC r 3 o.c }

/-- The rows that a value leads to, straight. -/
def refs : Nat → AV → List Nat
  | 0, _ => []
  | d + 1, v =>
    match v with
    | .ptr id _ _ => [id]
    | .sl id => [id]
    | .ss id _ _ => [id]
    | .dp id _ _ => [id]
    | .agg cs => cs.flatMap (refs d)
    | .tup vs => vs.flatMap (refs d)
    | .fn _ cs => cs.flatMap (refs d)
    | .bp cs _ => cs.flatMap (refs d)
    | _ => []

def refsC : Cont → List Nat
  | .raw _ _ _ [x] => refs 3 x
  | _ => []

/-- All rows that values lead to, each once, in the order in which they are met. -/
def roots (h : Heap) : Nat → List Nat → List Nat → List Nat
  | 0, seen, _ => seen
  | _, seen, [] => seen
  | n + 1, seen, x :: todo =>
    bif seen.contains x then roots h n seen todo
    else match hget h x with
      | some o => roots h n (seen ++ [x]) (refsC o.c ++ todo)
      | none => roots h n seen todo

def srcHeap (h : Heap) (src : List Nat) : Heap := src.map fun id => (hget h id).map (renO fun x => findIx x src 0)

/-- A state with the named slots alone, its heap numbered anew; the first rows, which came in, keep their numbers. -/
def canon (p : Nat) (live : List Nat) (st : St) : St :=
  let src := roots st.h 64 (List.range p) (live.flatMap fun t => refs 3 (st.s.getD t .undef))
  ⟨(List.range st.s.length).map fun t => bif live.contains t then ren (fun x => findIx x src 0) 3 (st.s.getD t .undef) else .undef, srcHeap st.h src⟩

/-- Values by value: what they lead to stays as it is from now on. -/
def deref (h : Heap) : Nat → AV → AV
  | 0, _ => .undef
  | d + 1, v =>
    match v with
    | .sl id => (match hget h id with | some ⟨.typed e xs, _⟩ => .tv (.row e) xs | some ⟨.deep _ e xs, _⟩ => .tv (.row e) xs | _ => .undef)
    | .ss id off n => (match hget h id with | some ⟨.typed e xs, _⟩ => .tv (.row e) (List.take n (List.drop off xs)) | _ => .undef)
    | .ptr id idx sub =>
      (match hget h id with
       | some ⟨.typed e xs, _⟩ => .tp e (xs.getD idx e.dflt) sub
       | some ⟨.raw _ _ z xs, _⟩ => .bp ((xs.getD idx z).cells.map (deref h d)) sub
       | _ => .undef)
    | .dp _ _ _ => .undef
    | .agg cs => .agg (cs.map (deref h d))
    | .tup vs => .tup (vs.map (deref h d))
    | .fn f cs => .fn f (cs.map (deref h d))
    | .bp cs j => .bp (cs.map (deref h d)) j
    | v => v

/-- A value of one cell that leads to no row of the heap. -/
def simpleV : AV → Bool
  | .int _ _ => true
  | .bool _ => true
  | .str _ => true
  | .nilp => true
  | .nils => true
  | .tv _ _ => true
  | .tp _ _ _ => true
  | _ => false

/-- A value that leads to no row of the heap. -/
def noRef : AV → Bool
  | .agg cs => cs.all simpleV
  | .fn _ cs => cs.all simpleV
  | v => simpleV v

/-- A value of words alone. -/
def flatV : AV → Bool
  | .int _ _ => true
  | .bool _ => true
  | .str _ => true
  | .tup vs => vs.all fun v => match v with | .int _ _ => true | .bool _ => true | .str _ => true | _ => false
  | _ => false

/-- A contract over args by value, whose result stays. -/
def byVal (m : (ρ : Type) → List AV → (AV → Option ρ) → Option ρ) : Con := fun ρ args h K =>
  m ρ (args.map (deref h 8)) fun v => bif args.all noRef || flatV v then K v h false else none

/-- No contract. -/
def noCon : Con := fun _ _ _ _ => none

/-- A function at a number of rounds: args, heap. -/
abbrev Run := (ρ : Type) → FuncId → List AV → Heap → (AV × Heap → Option ρ) → Option ρ

def acall (E : Env) (run : Run) (draw : Bool) : Call ρ := fun f args h K =>
  match E.con f with
  | some m => m ρ args h K
  | none => bif draw then none else run ρ f args h fun r => K r.1 r.2 true

/-- The first region of a piece of code. -/
def first : Code → Option Nat
  | .region id _ _ => some id
  | .seq a b => (first a).or (first b)
  | .block _ b => first b
  | .loop b => first b
  | _ => none

/-- The first region, where no loop begins ahead of it. -/
def firstJ : Code → Option Nat
  | .region id _ _ => some id
  | .seq a b => (firstJ a).or (match a with | .skip => firstJ b | _ => none)
  | .block _ b => firstJ b
  | _ => none

/-- How many rows came in that the function writes: told beside its regions. -/
def pinsOf (E : Env) (f : FuncId) : Nat := match E.live f 999999 with | some (p :: _) => p | _ => 0

def prune (E : Env) (f : FuncId) (b : Code) (st : St) : St :=
  match (first b).bind (E.live f) with
  | some live => canon (pinsOf E f) live st
  | none => st

/-- Where much meets: the state with what lives. -/
def gate (n : Nat) (x : Option ρ) : Option ρ :=
  match n with
  | 0 => none
  | _ + 1 => x

/-- The run behind such a place takes a round; its rest is a run of its own. -/
def enter (E : Env) (f : FuncId) (n : Nat) (b : Code) (st : St) (K : St → Option ρ) : Option ρ :=
  match (firstJ b).bind (E.live f) with
  | some live => gate n (K (canon (pinsOf E f) live st))
  | none => K st

def aloop (pr : St → St) (body : St → (Out → St → Option ρ) → Option ρ) : Nat → St → (Out → St → Option ρ) → Option ρ
  | 0, _, _ => none
  | n + 1, st, K => body st fun o st' => match o with | .normal => aloop pr body n (pr st') K | o => K o st'

def seqK (E : Env) (f : FuncId) (n : Nat) (b : Code) (run : St → Option ρ) (K : Out → St → Option ρ) : Out → St → Option ρ
  | .normal, st => enter E f n b st run
  | o, st => K o st

def blockK (id : Nat) (K : Out → St → Option ρ) : Out → St → Option ρ
  | .exit i, st => bif i == id then K .normal st else K (.exit i) st
  | o, st => K o st

/-- The slots, a test of them decided. -/
def known (s : List AV) (c : Operand) (b : Bool) : List AV :=
  match c with
  | .tmp t => s.set t (.bool b)
  | _ => s

def aexec (E : Env) (f : FuncId) (call : Bool → Call ρ) (n : Nat) : Code → St → (Out → St → Option ρ) → Option ρ
  | .skip, st, K => K .normal st
  | .region _ ops draw, st, K => aregion E call ops draw st (K .normal)
  | .seq a b, st, K => aexec E f call n a st (seqK E f n b (fun st' => aexec E f call n b st' K) K)
  | .cond c x y, st, K =>
    (match aeval st.s c with
     | .bool b => bif b then aexec E f call n x ⟨known st.s c true, st.h⟩ K else aexec E f call n y ⟨known st.s c false, st.h⟩ K
     | _ => none)
  | .block id b, st, K => aexec E f call n b st (blockK id K)
  | .loop b, st, K => aloop (prune E f b) (fun st K => aexec E f call n b st K) n (prune E f b st) K
  | .exit id, st, K => K (.exit id) st
  | .ret, st, K => K .ret st
  | _, _, _ => none

def loopK (pr : St → St) (body : St → (Out → St → Option ρ) → Option ρ) (m : Nat) (K : Out → St → Option ρ) : Out → St → Option ρ
  | .normal, st => aloop pr body m (pr st) K
  | o, st => K o st

/-- The code of a function from a place of it on: loops around it have rounds of their own left. -/
def resume (E : Env) (f : FuncId) (call : Bool → Call ρ) (n : Nat) : List Bool → List Nat → Code → St → (Out → St → Option ρ) → Option ρ
  | [], m :: _, .loop b, st, K => aloop (prune E f b) (fun st K => aexec E f call n b st K) m st K
  | [], _, c, st, K => aexec E f call n c st K
  | true :: p, ms, .seq _ b, st, K => resume E f call n p ms b st K
  | false :: p, ms, .seq a b, st, K => resume E f call n p ms a st (seqK E f n b (fun st' => aexec E f call n b st' K) K)
  | true :: p, ms, .cond _ _ y, st, K => resume E f call n p ms y st K
  | false :: p, ms, .cond _ x _, st, K => resume E f call n p ms x st K
  | _ :: p, ms, .block id b, st, K => resume E f call n p ms b st (blockK id K)
  | _ :: p, m :: ms, .loop b, st, K => resume E f call n p ms b st (loopK (prune E f b) (fun st K => aexec E f call n b st K) m K)
  | _, _, _, _, _ => none

/-- A function's results. -/
def aresults (E : Env) (fn : Func) (st : St) : Option (AV × Heap) :=
  let one (r : ResultVar) : Option AV :=
    match r with
    | .tmp t => some (st.s.getD t .undef)
    | .cell t ty => aload E ty (st.s.getD t .undef) st.h some
  match fn.results.toList with
  | [] => some (.tup [], st.h)
  | [r] => (one r).map fun v => (v, st.h)
  | [r, q] => (match one r, one q with | some v, some w => some (.tup [v, w], st.h) | _, _ => none)
  | [r, q, p] => (match one r, one q, one p with | some v, some w, some u => some (.tup [v, w, u], st.h) | _, _, _ => none)
  | _ => none

/-- What is told of the end of a function. -/
def leave (E : Env) (fn : Func) (fin : AV × Heap → Option ρ) : Out → St → Option ρ
  | .normal, st => (aresults E fn st).bind fin
  | .ret, st => (aresults E fn st).bind fin
  | _, _ => none

def begin (fn : Func) (args : List AV) (h : Heap) : St := ⟨args ++ List.replicate (fn.ntmps - args.length) .undef, h⟩

/-- The function's own run: what it comes to is handed to 'fin'. -/
def abody (E : Env) (run : Run) (k : Nat) (f : FuncId) (fn : Func) (args : List AV) (h : Heap) (fin : AV × Heap → Option ρ) : Option ρ :=
  match fn.body with
  | some c => aexec E f (acall E run) k c (begin fn args h) (leave E fn fin)
  | none => none

end ops

def arun (P : Program) (E : Env) : Nat → Run
  | 0, _, _, _, _, _ => none
  | k + 1, _, f, args, h, fin =>
    match P.funcs[f]? with
    | some fn => abody E (arun P E k) k f fn args h fin
    | none => none

end Go.AM
namespace Go.AM
def bodyOf (fn : Func) : Code := fn.body.getD .skip
/-- A call's several results read as of types, one by one. -/
def tupAs : (t : Ty) → List AV → Option t.C
  | .unit, [] => some ()
  | .pair a b, v :: vs => (v.as a).bind fun x => (tupAs b vs).map fun y => (x, y)
  | _, _ => none
/-- One result by value, read as of a type. -/
def fin1 (t : Ty) (r : AV × Heap) : Option t.C := (deref r.2 8 r.1).as t
/-- Several results. -/
def finN (t : Ty) (r : AV × Heap) : Option t.C := match deref r.2 8 r.1 with | .tup vs => tupAs t vs | _ => none
/-- Several typed values. -/
def outs : (t : Ty) → t.C → List AV
  | .pair a b, x => tvn a x.1 :: outs b x.2
  | _, _ => []
end Go.AM
namespace Go.AM

/-! What abstract values and heaps tell of a world. -/

/-- Where a row lies, if anywhere: block, first cell; its elements, an element's cells; has it no room. -/
structure Info where
  loc : Bool
  b : Nat
  base : Nat
  len : Nat
  es : Nat
  full : Bool
  /-- The slices that stay in the cells of a deep row's elements. -/
  hd : Nat → Nat → Value → Prop := fun _ _ _ => False

/-- Where a row lies; no slices in it stay. -/
@[reducible] def inf (loc : Bool) (b base len es : Nat) (full : Bool) : Info := { loc, b, base, len, es, full }

structure Ctx where
  m : Nat → Option Info
  dead : Nat → Prop
  pr : Nat → Prop
  w : World
  /-- The blocks that a row's elements lead to, nobody else's. -/
  own : Nat → Nat → Prop

def cellAt (w : World) (b o : Nat) : Option Value := w.cell? ⟨b, o, none⟩

/-- Cells from a place on. -/
def Lies (w : World) (b o : Nat) (vs : List Value) : Prop := ∀ (j : Nat) (v : Value), vs[j]? = some v → cellAt w b (o + j) = some v

/-- A slice value that stays. -/
def RowG {α : Type} (pr : Nat → Prop) (w : World) (size : Nat) (R : α → List Value → Prop) (xs : List α) (v : Value) : Prop :=
  ∃ (a : Option Addr) (cap : Nat), v = .slice a xs.length cap ∧ xs.length ≤ cap ∧ (a = none → cap = 0) ∧
    (xs ≠ [] → ∃ b o, a = some ⟨b, o, none⟩ ∧ pr b ∧ ∀ (i : Nat) (x : α), xs[i]? = some x → ∃ vs, vs.length = size ∧ Lies w b (o + i * size) vs ∧ R x vs)

inductive NodeRep (pr : Nat → Prop) (w : World) : Node → List Value → Prop
  | mk (o : Int) (s : ByteArray) (n : Int) (kids : List Node) (a : Option Addr) (cap : Nat) (b off : Nat) (vsf : Nat → List Value) :
      kids.length ≤ cap → (a = none → cap = 0) → (kids ≠ [] → a = some ⟨b, off, none⟩ ∧ pr b) →
      (∀ (i : Nat) (x : Node), kids[i]? = some x → (vsf i).length = 4 ∧ Lies w b (off + i * 4) (vsf i)) →
      (∀ (i : Nat) (x : Node), kids[i]? = some x → NodeRep pr w x (vsf i)) →
      NodeRep pr w (.mk o s n kids) [.int .i64 o, .string s, .int .i64 n, .slice a kids.length cap]

/-- Cells that hold a typed value. -/
def CellsRep (pr : Nat → Prop) (w : World) : (t : Ty) → t.C → List Value → Prop
  | .int k, n, vs => vs = [.int k n]
  | .bool, b, vs => vs = [.bool b]
  | .str, s, vs => vs = [.string s]
  | .row e, xs, vs => ∃ v, vs = [v] ∧ RowG pr w e.size (CellsRep pr w e) xs v
  | .unit, _, vs => vs = []
  | .pair a b, x, vs => ∃ l r, vs = l ++ r ∧ CellsRep pr w a x.1 l ∧ CellsRep pr w b x.2 r
  | .node, x, vs => NodeRep pr w x vs

/-- A row's elements, what each leads to its own. -/
def DRow {α : Type} (w : World) (size : Nat) (R : α → List Value → (Nat → Prop) → Prop) (F : Nat → Prop) (b base : Nat) (xs : List α) : Prop :=
  ∃ G : Nat → Nat → Prop, (∀ j k, G j k → F k ∧ k ≠ b) ∧ (∀ j j' k, G j k → G j' k → j = j') ∧
    ∀ (j : Nat) (x : α), xs[j]? = some x → ∃ vs, vs.length = size ∧ Lies w b (base + j * size) vs ∧ R x vs (G j)

/-- The block of a row: so many cells, none frozen. -/
def Blk (w : World) (b n : Nat) : Prop :=
  ∃ C T fr, w.heap[b]? = some (.cells C T fr) ∧ C.size = n ∧ ∀ i, i < n → w.frozen? ⟨b, i, none⟩ = false

/-- Cells that hold a typed value, all that it leads to in blocks of its own. -/
def DCells (w : World) : (t : Ty) → t.C → List Value → (Nat → Prop) → Prop
  | .int k, n, vs, _ => vs = [.int k n]
  | .bool, b, vs, _ => vs = [.bool b]
  | .str, s, vs, _ => vs = [.string s]
  | .row e, xs, vs, F => (List.length xs = 0 ∧ ∃ a, vs = [.slice a 0 0]) ∨
      ∃ b o cap n, vs = [.slice (some ⟨b, o, none⟩) (List.length xs) cap] ∧ List.length xs ≤ cap ∧ F b ∧ Blk w b n ∧ o + cap * e.size ≤ n ∧ DRow w e.size (DCells w e) F b o xs
  | .unit, _, vs, _ => vs = []
  | .pair a b, x, vs, F => ∃ l r L R, vs = l ++ r ∧ (∀ k, L k → F k) ∧ (∀ k, R k → F k) ∧ (∀ k, L k → ¬ R k) ∧ DCells w a x.1 l L ∧ DCells w b x.2 r R
  | .node, _, _, _ => False

def TRep (pr : Nat → Prop) (w : World) (t : Ty) (x : t.C) (v : Value) : Prop :=
  if t.isAgg then ∃ vs : Array Value, v = .agg vs ∧ CellsRep pr w t x vs.toList else CellsRep pr w t x [v]

def slRep (c : Ctx) (id : Nat) (v : Value) : Prop :=
  (∃ a n m, v = .slice a n m) ∧ (c.dead id ∨ ∃ i, c.m id = some i ∧
    ((i.loc = true ∧ ∃ cap n, v = .slice (some ⟨i.b, i.base, none⟩) i.len cap ∧ i.len ≤ cap ∧ Blk c.w i.b n ∧ i.base + cap * i.es ≤ n ∧ (i.full = true → cap = i.len)) ∨
     (i.loc = false ∧ i.len = 0 ∧ ∃ a, v = .slice a 0 0)))

def ssRep (c : Ctx) (id off len : Nat) (v : Value) : Prop :=
  (∃ a n m, v = .slice a n m) ∧ (c.dead id ∨ ∃ i, c.m id = some i ∧ off + len ≤ i.len ∧
    ((i.loc = true ∧ ∃ cap n, v = .slice (some ⟨i.b, i.base + off * i.es, none⟩) len cap ∧ len ≤ cap ∧ Blk c.w i.b n ∧ i.base + (off + cap) * i.es ≤ n) ∨
     (len = 0 ∧ ∃ a, v = .slice a 0 0)))

def ptrRep (c : Ctx) (id idx sub : Nat) (v : Value) : Prop :=
  (∃ p, v = .pointer (some p)) ∧ (c.dead id ∨ ∃ i, c.m id = some i ∧ idx < i.len ∧ v = .pointer (some ⟨i.b, i.base + idx * i.es + sub, none⟩))

def dpRep (c : Ctx) (id idx sub : Nat) (v : Value) : Prop :=
  (∃ a n m, v = .slice a n m) ∧ (c.dead id ∨ ∃ i, c.m id = some i ∧ i.hd idx sub v)

mutual
/-- What an abstract value tells of a value. -/
def VRep (c : Ctx) : AV → Value → Prop
  | .undef, _ => True
  | .int k n, v => v = .int k n
  | .bool b, v => v = .bool b
  | .str s, v => v = .string s
  | .nilp, v => v = .pointer none
  | .fn f caps, v => ∃ ws : Array Value, v = .func (.func f) #[] ws ∧ VReps c caps ws.toList
  | .agg cs, v => ∃ ws : Array Value, v = .agg ws ∧ VReps c cs ws.toList
  | .tup vs, v => ∃ ws : Array Value, v = .tuple ws ∧ VReps c vs ws.toList
  | .ptr id idx sub, v => ptrRep c id idx sub v
  | .sl id, v => slRep c id v
  | .ss id off len, v => ssRep c id off len v
  | .dp id idx sub, v => dpRep c id idx sub v
  | .nils, v => ∃ a, v = .slice a 0 0
  | .tv t x, v => TRep c.pr c.w t x v
  | .tp t x sub, v => ∃ b o vs, v = .pointer (some ⟨b, o + sub, none⟩) ∧ c.pr b ∧ vs.length = t.size ∧ Lies c.w b o vs ∧ CellsRep c.pr c.w t x vs
  | .bp cs sub, v => ∃ b o ws, v = .pointer (some ⟨b, o + sub, none⟩) ∧ c.pr b ∧ Lies c.w b o ws ∧ VReps c cs ws
def VReps (c : Ctx) : List AV → List Value → Prop
  | [], [] => True
  | a :: as, v :: vs => VRep c a v ∧ VReps c as vs
  | _, _ => False
end

/-- What a row of the heap tells of its block. -/
def contRep (c : Ctx) (b base : Nat) : Cont → Prop
  | .typed e xs => ∀ (i : Nat) (x : e.C), xs[i]? = some x → ∃ vs, vs.length = e.size ∧ Lies c.w b (base + i * e.size) vs ∧ CellsRep c.pr c.w e x vs
  | .raw a es d xs => d.isAgg = a ∧ d.size = es ∧ ∀ (i : Nat) (x : AV), xs[i]? = some x → x.isAgg = a ∧ x.size = es ∧ ∃ vs, vs.length = es ∧ Lies c.w b (base + i * es) vs ∧ VReps c x.cells vs ∧ ∀ v ∈ vs, v.oneCell' = true
  | .deep _ e xs => ∀ (i : Nat) (x : e.C), xs[i]? = some x → ∃ vs, vs.length = e.size ∧ Lies c.w b (base + i * e.size) vs ∧ ∀ v ∈ vs, v.oneCell' = true

structure ObjRep (c : Ctx) (i : Info) (o : Obj) : Prop where
  len : i.len = o.c.len
  es : i.es = o.c.es
  pos : 0 < i.es
  full : i.full = o.full
  loc : 0 < i.len → i.loc = true
  blk : i.loc = true → ∃ n, Blk c.w i.b n ∧ i.base + i.len * i.es ≤ n
  cont : contRep c i.b i.base o.c

/-- The blocks that rows have beside their own. -/
structure OwnOk (c : Ctx) : Prop where
  low : ∀ id b, ¬ c.dead id → c.own id b → b < c.w.heap.size
  inj : ∀ id id' b, ¬ c.dead id → ¬ c.dead id' → c.own id b → c.own id' b → id = id'
  row : ∀ id id' i, ¬ c.dead id → ¬ c.dead id' → c.m id' = some i → i.loc = true → ¬ c.own id i.b
  apart : ∀ id b, ¬ c.dead id → c.own id b → ¬ c.pr b
  told : ∀ id b, c.own id b → c.m id ≠ none

/-- A deep row. -/
structure DeepRow (c : Ctx) (id : Nat) (i : Info) (fx : Bool) (e : Ty) (xs : List e.C) : Prop where
  row : DRow c.w e.size (DCells c.w e) (c.own id) i.b i.base xs
  hd : fx = true → ∀ idx sub v, idx < List.length xs → (rowAt e sub).isSome = true → cellAt c.w i.b (i.base + idx * e.size + sub) = some v → i.hd idx sub v
  hd' : ∀ idx sub v, i.hd idx sub v → fx = true ∧ idx < List.length xs ∧ (rowAt e sub).isSome = true ∧ cellAt c.w i.b (i.base + idx * e.size + sub) = some v

/-- Does a row have a block? -/
def Ctx.at (c : Ctx) (id b : Nat) : Prop := c.own id b ∨ ∃ i, c.m id = some i ∧ i.loc = true ∧ i.b = b
def Ctx.has (c : Ctx) (n b : Nat) : Prop := ∃ id, id < n ∧ ¬ c.dead id ∧ c.at id b

structure Sim (c : Ctx) (h : Heap) : Prop where
  obj : ∀ id i, id < h.length → c.m id = some i → ¬ c.dead id → ∃ o, hget h id = some o ∧ ObjRep c i o
  gone : ∀ id, id < h.length → c.dead id → hget h id = none
  low : ∀ id i, c.m id = some i → ¬ c.dead id → i.loc = true → i.b < c.w.heap.size
  inj : ∀ id id' i i', c.m id = some i → c.m id' = some i' → ¬ c.dead id → ¬ c.dead id' → i.loc = true → i'.loc = true → i.b = i'.b → id = id'
  plow : ∀ b, c.pr b → b < c.w.heap.size
  apart : ∀ id i, c.m id = some i → ¬ c.dead id → i.loc = true → ¬ c.pr i.b
  own : OwnOk c
  deep : ∀ id i fx e xs f, id < h.length → c.m id = some i → ¬ c.dead id → hget h id = some ⟨.deep fx e xs, f⟩ → DeepRow c id i fx e xs

/-- From a state on: what stays, by whatever numbers. -/
structure Was (c : Ctx) (h : Heap) (c' : Ctx) (h' : Heap) : Prop where
  pr : ∀ b, c.pr b → c'.pr b
  size : c.w.heap.size ≤ c'.w.heap.size
  keep : ∀ b, c.pr b → c'.w.heap[b]? = c.w.heap[b]?
  blk : ∀ b n, Blk c.w b n → Blk c'.w b n
  frame : ∀ b, b < c.w.heap.size → ¬ c.has h.length b → c'.w.heap[b]? = c.w.heap[b]?
  own : ∀ b, c'.has h'.length b → c.w.heap.size ≤ b ∨ c.has h.length b
  pnew : ∀ b, c'.pr b → c.pr b ∨ c.w.heap.size ≤ b
  os : c'.w.os = c.w.os
  tape : c'.w.tape = c.w.tape
  output : c'.w.output = c.w.output

/-- From a state on: what was told stays told. -/
structure Ext (c : Ctx) (h : Heap) (c' : Ctx) (h' : Heap) : Prop extends Was c h c' h' where
  len : h.length ≤ h'.length
  m : ∀ id i, c.m id = some i → c'.m id = some i
  fresh : ∀ id i, c'.m id = some i → c.m id = none → h.length ≤ id ∧ id < h'.length
  dead : ∀ id, c.dead id → c'.dead id
  dead' : ∀ id, c'.dead id → c.dead id ∨ id < h'.length

/-- A state in which memory has grown alone. -/
structure Grow (c : Ctx) (h : Heap) (c' : Ctx) (h' : Heap) : Prop where
  old : ∀ b, b < c.w.heap.size → c'.w.heap[b]? = c.w.heap[b]?
  heap : ∀ id, id < h.length → hget h' id = hget h id
  dead : c'.dead = c.dead
  own : ∀ id, c.m id ≠ none → c'.own id = c.own id

/-- The rows to come are not told of yet. -/
def Free (c : Ctx) (h h' : Heap) : Prop := ∀ id, h.length ≤ id → id < h'.length → c.m id = none ∧ ¬ c.dead id


/-! What stays told. -/
theorem cellAt_of_block {w w' : World} {b o : Nat} (h : w'.heap[b]? = w.heap[b]?) : cellAt w' b o = cellAt w b o := by
  simp [cellAt, World.cell?, h]

theorem Lies.of_block {w w' : World} {b o : Nat} {vs : List Value} (h : w'.heap[b]? = w.heap[b]?) (hl : Lies w b o vs) : Lies w' b o vs :=
  fun j v hv => (cellAt_of_block h).trans (hl j v hv)

/-- The protected blocks stay: what they hold stays told. -/
structure Keeps (p p' : Nat → Prop) (w w' : World) : Prop where
  pr : ∀ b, p b → p' b
  keep : ∀ b, p b → w'.heap[b]? = w.heap[b]?

theorem RowG.mono {α : Type} {pr pr' : Nat → Prop} {w w' : World} {size : Nat} {R R' : α → List Value → Prop} {xs : List α} {v : Value}
    (k : Keeps pr pr' w w') (hR : ∀ x vs, R x vs → R' x vs) (h : RowG pr w size R xs v) : RowG pr' w' size R' xs v := by
  obtain ⟨a, cap, hv, hl, hn, hb⟩ := h
  refine ⟨a, cap, hv, hl, hn, fun hne => ?_⟩
  obtain ⟨b, o, ha, hp, hx⟩ := hb hne
  refine ⟨b, o, ha, k.pr _ hp, fun i x hi => ?_⟩
  obtain ⟨vs, hlen, hlies, hr⟩ := hx i x hi
  exact ⟨vs, hlen, hlies.of_block (k.keep _ hp), hR _ _ hr⟩

theorem NodeRep.mono {pr pr' : Nat → Prop} {w w' : World} (k : Keeps pr pr' w w') {x : Node} {vs : List Value} (h : NodeRep pr w x vs) : NodeRep pr' w' x vs := by
  induction h with
  | mk o s n kids a cap b off vsf h1 h2 h3 h4 h5 ih =>
    refine .mk o s n kids a cap b off vsf h1 h2 (fun hne => ⟨(h3 hne).1, k.pr _ (h3 hne).2⟩) (fun i x hi => ⟨(h4 i x hi).1, ?_⟩) ih
    have hne : kids ≠ [] := by rintro rfl; simp at hi
    exact (h4 i x hi).2.of_block (k.keep _ (h3 hne).2)

theorem CellsRep.mono {pr pr' : Nat → Prop} {w w' : World} (k : Keeps pr pr' w w') : ∀ {t : Ty} {x : t.C} {vs : List Value}, CellsRep pr w t x vs → CellsRep pr' w' t x vs := by
  intro t
  induction t with
  | int _ => intro x vs h; exact h
  | bool => intro x vs h; exact h
  | str => intro x vs h; exact h
  | row e ih => rintro x vs ⟨v, rfl, h⟩; exact ⟨v, rfl, h.mono k (fun x vs hx => ih hx)⟩
  | unit => intro x vs h; exact h
  | pair a b iha ihb => rintro x vs ⟨l, r, rfl, hl, hr⟩; exact ⟨l, r, rfl, iha hl, ihb hr⟩
  | node => intro x vs h; exact NodeRep.mono k h

theorem TRep.mono {pr pr' : Nat → Prop} {w w' : World} (k : Keeps pr pr' w w') {t : Ty} {x : t.C} {v : Value} (h : TRep pr w t x v) : TRep pr' w' t x v := by
  unfold TRep at *
  split
  · rename_i ht; rw [if_pos ht] at h; obtain ⟨vs, hv, hc⟩ := h; exact ⟨vs, hv, hc.mono k⟩
  · rename_i ht; rw [if_neg ht] at h; exact h.mono k

/-- From one frame of telling to another. -/
structure Tells (c c' : Ctx) : Prop where
  m : ∀ id i, c.m id = some i → c'.m id = some i
  dead : ∀ id, c.dead id → c'.dead id
  k : Keeps c.pr c'.pr c.w c'.w
  blk : ∀ b n, Blk c.w b n → Blk c'.w b n

theorem Ext.tells {c c' : Ctx} {h h' : Heap} (x : Ext c h c' h') : Tells c c' := ⟨x.m, x.dead, ⟨x.pr, x.keep⟩, x.blk⟩

theorem slRep.mono {c c' : Ctx} (t : Tells c c') {id : Nat} {v : Value} (h : slRep c id v) : slRep c' id v := by
  refine ⟨h.1, ?_⟩
  rcases h.2 with h | ⟨i, hi, h⟩
  · exact .inl (t.dead _ h)
  · refine .inr ⟨i, t.m _ _ hi, ?_⟩
    rcases h with ⟨hl, cap, n, h1, h2, h3, h4⟩ | h
    · exact .inl ⟨hl, cap, n, h1, h2, t.blk _ _ h3, h4⟩
    · exact .inr h

theorem ssRep.mono {c c' : Ctx} (t : Tells c c') {id off len : Nat} {v : Value} (h : ssRep c id off len v) : ssRep c' id off len v := by
  refine ⟨h.1, ?_⟩
  rcases h.2 with h | ⟨i, hi, hle, h⟩
  · exact .inl (t.dead _ h)
  · refine .inr ⟨i, t.m _ _ hi, hle, ?_⟩
    rcases h with ⟨hl, cap, n, h1, h2, h3, h4⟩ | h
    · exact .inl ⟨hl, cap, n, h1, h2, t.blk _ _ h3, h4⟩
    · exact .inr h

theorem dpRep.mono {c c' : Ctx} (t : Tells c c') {id idx sub : Nat} {v : Value} (h : dpRep c id idx sub v) : dpRep c' id idx sub v := by
  refine ⟨h.1, ?_⟩
  rcases h.2 with h | ⟨i, hi, h⟩
  · exact .inl (t.dead _ h)
  · exact .inr ⟨i, t.m _ _ hi, h⟩

theorem ptrRep.mono {c c' : Ctx} (t : Tells c c') {id idx sub : Nat} {v : Value} (h : ptrRep c id idx sub v) : ptrRep c' id idx sub v := by
  refine ⟨h.1, ?_⟩
  rcases h.2 with h | ⟨i, hi, h⟩
  · exact .inl (t.dead _ h)
  · exact .inr ⟨i, t.m _ _ hi, h⟩

mutual
theorem VRep.mono {c c' : Ctx} (t : Tells c c') : ∀ {a : AV} {v : Value}, VRep c a v → VRep c' a v
  | .undef, _, _ => by simp [VRep]
  | .int _ _, _, h => by simpa [VRep] using h
  | .bool _, _, h => by simpa [VRep] using h
  | .str _, _, h => by simpa [VRep] using h
  | .nilp, _, h => by simpa [VRep] using h
  | .nils, _, h => by simpa [VRep] using h
  | .fn f caps, v, h => by
    simp only [VRep] at h ⊢
    obtain ⟨ws, hv, h⟩ := h
    exact ⟨ws, hv, VReps.mono t h⟩
  | .agg cs, v, h => by
    simp only [VRep] at h ⊢
    obtain ⟨ws, hv, h⟩ := h
    exact ⟨ws, hv, VReps.mono t h⟩
  | .tup cs, v, h => by
    simp only [VRep] at h ⊢
    obtain ⟨ws, hv, h⟩ := h
    exact ⟨ws, hv, VReps.mono t h⟩
  | .ptr _ _ _, _, h => by simp only [VRep] at h ⊢; exact h.mono t
  | .sl _, _, h => by simp only [VRep] at h ⊢; exact h.mono t
  | .ss _ _ _, _, h => by simp only [VRep] at h ⊢; exact h.mono t
  | .dp _ _ _, _, h => by simp only [VRep] at h ⊢; exact h.mono t
  | .tv _ _, _, h => by simp only [VRep] at h ⊢; exact h.mono t.k
  | .tp ty x sub, v, h => by
    simp only [VRep] at h ⊢
    obtain ⟨b, o, vs, hv, hp, hl, hlies, hc⟩ := h
    exact ⟨b, o, vs, hv, t.k.pr _ hp, hl, hlies.of_block (t.k.keep _ hp), hc.mono t.k⟩
  | .bp cs sub, v, h => by
    simp only [VRep] at h ⊢
    obtain ⟨b, o, ws, hv, hp, hlies, hc⟩ := h
    exact ⟨b, o, ws, hv, t.k.pr _ hp, hlies.of_block (t.k.keep _ hp), VReps.mono t hc⟩
theorem VReps.mono {c c' : Ctx} (t : Tells c c') : ∀ {as : List AV} {vs : List Value}, VReps c as vs → VReps c' as vs
  | [], [], _ => by simp [VReps]
  | a :: as, v :: vs, h => by
    simp only [VReps] at h ⊢
    exact ⟨VRep.mono t h.1, VReps.mono t h.2⟩
  | [], _ :: _, h => by simp [VReps] at h
  | _ :: _, [], h => by simp [VReps] at h
end

theorem Blk.of_block' {w w' : World} {b n : Nat} (h : w'.heap[b]? = w.heap[b]?) (hb : Blk w b n) : Blk w' b n := by
  obtain ⟨C, T, fr, h1, h2, h3⟩ := hb
  exact ⟨C, T, fr, h.trans h1, h2, fun i hi => (show w'.frozen? ⟨b, i, none⟩ = w.frozen? ⟨b, i, none⟩ by simp [World.frozen?, h]).trans (h3 i hi)⟩

theorem DRow.mono {α : Type} {w w' : World} {size : Nat} {R R' : α → List Value → (Nat → Prop) → Prop} {F F' : Nat → Prop} {b base : Nat} {xs : List α} (hb : xs ≠ [] → w'.heap[b]? = w.heap[b]?) (hF : ∀ k, F k → F' k)
    (hR : ∀ x vs G, (∀ k, G k → F k) → R x vs G → R' x vs G) (h : DRow w size R F b base xs) : DRow w' size R' F' b base xs := by
  obtain ⟨G, h1, h2, h3⟩ := h
  refine ⟨G, fun j k hk => ⟨hF k (h1 j k hk).1, (h1 j k hk).2⟩, h2, fun j x hj => ?_⟩
  obtain ⟨vs, q1, q2, q3⟩ := h3 j x hj
  exact ⟨vs, q1, q2.of_block (hb (fun e => by rw [e] at hj; simp at hj)), hR x vs (G j) (fun k hk => (h1 j k hk).1) q3⟩

theorem DCells.mono {w w' : World} : ∀ {t : Ty} {x : t.C} {vs : List Value} {F F' : Nat → Prop}, (∀ b, F b → w'.heap[b]? = w.heap[b]?) → (∀ k, F k → F' k) → DCells w t x vs F → DCells w' t x vs F' := by
  intro t
  induction t with
  | int _ => intro x vs F F' _ _ h; exact h
  | bool => intro x vs F F' _ _ h; exact h
  | str => intro x vs F F' _ _ h; exact h
  | unit => intro x vs F F' _ _ h; exact h
  | node => intro x vs F F' _ _ h; exact h
  | row e ih =>
    intro x vs F F' hk hF h
    rcases h with h | ⟨b, o, cap, n, h1, h2, h3, h4, h5, h6⟩
    · exact .inl h
    · exact .inr ⟨b, o, cap, n, h1, h2, hF b h3, h4.of_block' (hk b h3), h5, h6.mono (fun _ => hk b h3) hF fun y us G hG hy => ih (fun k hk' => hk k (hG k hk')) (fun _ h => h) hy⟩
  | pair a b iha ihb =>
    intro x vs F F' hk hF h
    obtain ⟨l, r, L, R, h1, h2, h3, h4, h5, h6⟩ := h
    exact ⟨l, r, L, R, h1, fun k q => hF k (h2 k q), fun k q => hF k (h3 k q), h4, iha (fun k q => hk k (h2 k q)) (fun _ h => h) h5, ihb (fun k q => hk k (h3 k q)) (fun _ h => h) h6⟩

theorem DeepRow.mono {c c' : Ctx} {id id' : Nat} {i : Info} {fx : Bool} {e : Ty} {xs : List e.C} (ho : ∀ b, c.own id b → c'.own id' b) (hk : ∀ b, c.own id b → c'.w.heap[b]? = c.w.heap[b]?) (hb : xs ≠ [] → c'.w.heap[i.b]? = c.w.heap[i.b]?)
    (h : DeepRow c id i fx e xs) : DeepRow c' id' i fx e xs where
  row := h.row.mono hb ho fun _ _ _ hG q => q.mono (fun b hb => hk b (hG b hb)) (fun _ h => h)
  hd hf idx sub v h1 h2 h3 := h.hd hf idx sub v h1 h2 (by rw [← cellAt_of_block (hb (fun e => by rw [e] at h1; simp at h1))]; exact h3)
  hd' idx sub v q := by
    obtain ⟨q1, q2, q3, q4⟩ := h.hd' idx sub v q
    exact ⟨q1, q2, q3, by rw [cellAt_of_block (hb (fun e => by rw [e] at q2; simp at q2))]; exact q4⟩

theorem OwnOk.step {c c' : Ctx} (s : OwnOk c) (ho : c'.own = c.own) (hd : ∀ id, c.dead id → c'.dead id) (hm : ∀ id i, c.m id = some i → c'.m id = some i) (hsz : c.w.heap.size ≤ c'.w.heap.size) (hpr : ∀ b, c'.pr b → c.pr b ∨ c.w.heap.size ≤ b)
    (hrow : ∀ id i, c'.m id = some i → ¬ c'.dead id → i.loc = true → ∀ k, ¬ c.dead k → ¬ c.own k i.b) : OwnOk c' where
  low id b h1 h2 := by rw [ho] at h2; have := s.low id b (fun h => h1 (hd _ h)) h2; omega
  inj id id' b h1 h2 h3 h4 := by rw [ho] at h3 h4; exact s.inj id id' b (fun h => h1 (hd _ h)) (fun h => h2 (hd _ h)) h3 h4
  row id id' i h1 h2 h3 h4 h5 := by rw [ho] at h5; exact hrow id' i h3 h2 h4 id (fun h => h1 (hd _ h)) h5
  apart id b h1 h2 h3 := by
    rw [ho] at h2
    have h1' := fun h => h1 (hd _ h)
    rcases hpr b h3 with h | h
    · exact s.apart id b h1' h2 h
    · have := s.low id b h1' h2; omega
  told id b h1 h2 := by
    rw [ho] at h1
    have := s.told id b h1
    cases hh : c.m id with
    | none => exact this hh
    | some i => rw [hm id i hh] at h2; cases h2
theorem OwnOk.fresh {c : Ctx} (s : OwnOk c) {b : Nat} (h : c.w.heap.size ≤ b) : ∀ k, ¬ c.dead k → ¬ c.own k b := fun k hk ho => by have := s.low k b hk ho; omega
theorem OwnOk.off {c : Ctx} (s : OwnOk c) {id : Nat} {i : Info} (h1 : c.m id = some i) (h2 : ¬ c.dead id) (h3 : i.loc = true) : ∀ k, ¬ c.dead k → ¬ c.own k i.b := fun k hk => s.row k id i hk h2 h1 h3
end Go.AM
