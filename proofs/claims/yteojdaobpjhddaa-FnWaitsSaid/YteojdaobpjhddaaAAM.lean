/- An interpreter of the model's code over values that are told, and its soundness. -/
import Derived.Orders
namespace Go.AM

/-! An executable abstract interpreter over the model's own code: immutable data by value, typed by codes; rows and variables of the call's own in an abstract heap. -/

/-- A node of a tree. -/
inductive Node where
  | mk (op : Int) (s : ByteArray) (n : Int) (kids : List Node)
namespace Node
def op : Node → Int | mk o _ _ _ => o
def s : Node → ByteArray | mk _ s _ _ => s
def n : Node → Int | mk _ _ n _ => n
def kids : Node → List Node | mk _ _ _ k => k
theorem eta (x : Node) : mk x.op x.s x.n x.kids = x := by cases x; rfl
end Node
instance : Inhabited Node := ⟨.mk 0 ByteArray.empty 0 []⟩

/-- Codes of types. A struct: its fields, each before the rest, 'unit' at the end. -/
inductive Ty where
  | int (k : IntKind) | bool | str
  | row (e : Ty)
  | unit
  | pair (a b : Ty)
  | node
  deriving DecidableEq

/-- What a code stands for. -/
def Ty.C : Ty → Type
  | .int _ => Int
  | .bool => Bool
  | .str => ByteArray
  | .row e => List e.C
  | .unit => Unit
  | .pair a b => a.C × b.C
  | .node => Node

def Ty.dflt : (t : Ty) → t.C
  | .int _ => (0 : Int)
  | .bool => false
  | .str => ByteArray.empty
  | .row _ => []
  | .unit => ()
  | .pair a b => (a.dflt, b.dflt)
  | .node => Node.mk 0 ByteArray.empty 0 []

/-- How many cells. -/
def Ty.size : Ty → Nat
  | .unit => 0
  | .pair a b => a.size + b.size
  | .node => 4
  | _ => 1

def Ty.isAgg : Ty → Bool
  | .unit => true
  | .pair _ _ => true
  | .node => true
  | _ => false

def Ty.isUnit : Ty → Bool
  | .unit => true
  | _ => false

/-- Abstract values. -/
inductive AV where
  | undef
  | int (k : IntKind) (n : Int)
  | bool (b : Bool)
  | str (s : ByteArray)
  | nilp
  | fn (f : FuncId) (caps : List AV)
  | agg (cs : List AV)
  | tup (vs : List AV)
  /-- An address in the heap: row, element, cell. -/
  | ptr (id idx sub : Nat)
  /-- A whole row of the heap; a part of one. -/
  | sl (id : Nat)
  | ss (id off len : Nat)
  /-- A row inside an element of a row of the heap: row, element, cell. -/
  | dp (id idx sub : Nat)
  /-- An empty slice without room. -/
  | nils
  /-- A value that stays. -/
  | tv (t : Ty) (x : t.C)
  /-- The address of one that stays, and of a variable that stays. -/
  | tp (t : Ty) (x : t.C) (sub : Nat)
  | bp (cs : List AV) (sub : Nat)

instance : Inhabited AV := ⟨.undef⟩

/-- A typed value as it is told: what is one word, by itself. -/
def tvn : (t : Ty) → t.C → AV
  | .int k, n => .int k n
  | .bool, b => .bool b
  | .str, s => .str s
  | .row e, xs => .tv (.row e) xs
  | .unit, x => .tv .unit x
  | .pair a b, x => .tv (.pair a b) x
  | .node, x => .tv .node x

def cellsT : (t : Ty) → t.C → List AV
  | .int k, n => [.int k n]
  | .bool, b => [.bool b]
  | .str, s => [.str s]
  | .row e, xs => [.tv (.row e) xs]
  | .unit, _ => []
  | .pair a b, x => cellsT a x.1 ++ cellsT b x.2
  | .node, x => [.int .i64 (Node.op x), .str (Node.s x), .int .i64 (Node.n x), .tv (.row .node) (Node.kids x)]

def AV.cells : AV → List AV
  | .agg cs => cs
  | .tv t x => bif t.isAgg then cellsT t x else [.tv t x]
  | v => [v]

def AV.isAgg : AV → Bool
  | .agg _ => true
  | .tv t _ => t.isAgg
  | _ => false

/-- How many cells a value has. -/
def AV.size : AV → Nat
  | .agg cs => cs.length
  | .tv t _ => bif t.isAgg then t.size else 1
  | _ => 1

/-- A value of one cell. -/
def AV.one : AV → Bool
  | .undef => false
  | .agg _ => false
  | .tup _ => false
  | .tv t _ => !t.isAgg
  | _ => true

def Ty.cast {s t : Ty} (h : s = t) (x : s.C) : t.C := h ▸ x
/-- The same of rows. -/
def Ty.castR {s t : Ty} (h : s = t) (xs : List s.C) : List t.C := h ▸ xs

/-- A cell read as of a type. -/
def asOne : (t : Ty) → AV → Option t.C
  | .int k, .int k' n => if k = k' then some n else none
  | .bool, .bool b => some b
  | .str, .str s => some s
  | .row e, .tv t x => if h : t = .row e then some (Ty.cast h x) else none
  | .row _, .nils => some []
  | _, _ => none

def asCells : (t : Ty) → List AV → Option t.C
  | .unit, [] => some ()
  | .pair a b, cs => (asCells a (cs.take a.size)).bind fun x => (asCells b (cs.drop a.size)).map fun y => (x, y)
  | .node, [.int .i64 o, .str s, .int .i64 n, v] => (asOne (.row .node) v).map fun k => Node.mk o s n k
  | .int k, [v] => asOne (.int k) v
  | .bool, [v] => asOne .bool v
  | .str, [v] => asOne .str v
  | .row e, [v] => asOne (.row e) v
  | _, _ => none

/-- A value read as of a type. -/
def AV.as (t : Ty) : AV → Option t.C
  | .agg cs => bif t.isAgg then asCells t cs else none
  | .tv u x => if h : u = t then some (Ty.cast h x) else none
  | v => asOne t v

/-- What a load of so many cells finds in a typed value. -/
def partT (agg : Bool) (size : Nat) : (t : Ty) → t.C → Nat → Option AV
  | .pair a b, x, sub =>
    bif (sub == 0) && (size == a.size + b.size) && agg && !(b.isUnit && a.isAgg) then some (.tv (.pair a b) x)
    else bif Nat.blt sub a.size then partT agg size a x.1 sub else partT agg size b x.2 (sub - a.size)
  | .unit, _, _ => none
  | .node, x, sub =>
    bif (sub == 0) && (size == 4) && agg then some (.tv .node x)
    else bif agg then none else bif size == 1 then (cellsT .node x)[sub]? else none
  | t, x, sub => bif (sub == 0) && (size == 1) && !agg then some (tvn t x) else none

/-- The kinds of types that the interpreter knows. -/
inductive TK where
  | int (k : IntKind) | bool | str | slice (e : TypeId) | ptr (e : TypeId) | func
  | struct (fs : List (Nat × TypeId))

structure TI where
  kind : TK
  size : Nat
  bytes : Nat
  zero : AV
  /-- The code of its values that stay, where there is one. -/
  code : Option Ty
  /-- Are rows of it made deep: with what their elements lead to? -/
  deep : Bool := false

def TI.agg (t : TI) : Bool := match t.kind with | .struct _ => true | _ => false

/-- What a row of the heap holds: typed values that stay; or any, all of one size. -/
inductive Cont where
  | typed (e : Ty) (xs : List e.C)
  | raw (agg : Bool) (es : Nat) (d : AV) (xs : List AV)
  /-- Typed values, all that they lead to the row's own; 'fx': the slices in its cells stay. -/
  | deep (fx : Bool) (e : Ty) (xs : List e.C)

/-- What a load of a type finds among cells. -/
def partC (ti : TI) (cs : List AV) (off : Nat) : Option AV :=
  bif ti.agg then (bif Nat.ble (off + ti.size) cs.length then some (.agg ((cs.drop off).take ti.size)) else none)
  else bif ti.size == 1 then cs[off]? else none

/-- A struct's part. -/
def partV (ti : TI) (v : AV) (off : Nat) : Option AV :=
  match v with
  | .tv u y => bif u.isAgg then partT ti.agg ti.size u y off else none
  | .agg cs => partC ti cs off
  | _ => none

/-- A word inside a typed value. -/
def wordAt (t : Ty) (x : t.C) (sub : Nat) : Option AV :=
  match partT false 1 t x sub with
  | some (.int k n) => some (.int k n)
  | some (.bool b) => some (.bool b)
  | some (.str s) => some (.str s)
  | _ => none
/-- Does a cell hold a row? -/
def rowAt : Ty → Nat → Option Ty
  | .row e, 0 => some e
  | .pair a b, sub => bif Nat.blt sub a.size then rowAt a sub else rowAt b (sub - a.size)
  | _, _ => none
/-- A typed value, a word of it anew. -/
def setW : (t : Ty) → t.C → Nat → AV → Option t.C
  | .int k, _, 0, .int k' n => if k = k' then some n else none
  | .bool, _, 0, .bool b => some b
  | .str, _, 0, .str s => some s
  | .pair a b, x, sub, v => bif Nat.blt sub a.size then (setW a x.1 sub v).map fun y => (y, x.2) else (setW b x.2 (sub - a.size) v).map fun y => (x.1, y)
  | _, _, _, _ => none
/-- The row at a cell of a typed value. -/
def getR : (t : Ty) → t.C → Nat → (e : Ty) → Option (List e.C)
  | .row e, x, 0, f => if h : e = f then some (Ty.castR h x) else none
  | .pair a b, x, sub, f => bif Nat.blt sub a.size then getR a x.1 sub f else getR b x.2 (sub - a.size) f
  | _, _, _, _ => none
def setR : (t : Ty) → t.C → Nat → (e : Ty) → List e.C → t.C
  | .row e, x, 0, f, ys => if h : f = e then Ty.castR h ys else x
  | .pair a b, x, sub, f, ys => bif Nat.blt sub a.size then (setR a x.1 sub f ys, x.2) else (x.1, setR b x.2 (sub - a.size) f ys)
  | _, x, _, _, _ => x
def nodeless : Ty → Bool
  | .node => false
  | .pair a b => nodeless a && nodeless b
  | _ => true
/-- Words alone: nothing in it leads elsewhere. -/
def flatT : Ty → Bool
  | .int _ => true
  | .bool => true
  | .str => true
  | .unit => true
  | .pair a b => flatT a && flatT b
  | _ => false

namespace Cont
def len : Cont → Nat
  | .typed _ xs => xs.length
  | .raw _ _ _ xs => xs.length
  | .deep _ _ xs => xs.length
def get : Cont → Nat → AV
  | .typed e xs, i => tvn e (xs.getD i e.dflt)
  | .raw _ _ d xs, i => xs.getD i d
  | .deep .., _ => .undef
def isDeep : Cont → Bool
  | .deep .. => true
  | _ => false
def es : Cont → Nat
  | .typed e _ => e.size
  | .raw _ e _ _ => e
  | .deep _ e _ => e.size
def set : Cont → Nat → AV → Option Cont
  | .typed e xs, i, v => (v.as e).map fun x => .typed e (xs.set i x)
  | .raw a e d xs, i, v => bif (v.isAgg == a) && (v.size == e) then some (.raw a e d (xs.set i v)) else none
  | .deep .., _, _ => none
def cut : Cont → Nat → Nat → Cont
  | .typed e xs, lo, n => .typed e ((xs.drop lo).take n)
  | .raw a e d xs, lo, n => .raw a e d ((xs.drop lo).take n)
  | .deep fx e xs, lo, n => .deep fx e ((xs.drop lo).take n)
def app : Cont → Cont → Option Cont
  | .typed e xs, .typed f ys => if h : f = e then some (.typed e (xs ++ Ty.castR h ys)) else none
  | .raw a e d xs, .raw a' e' _ ys => bif (a == a') && (e == e') then some (.raw a e d (xs ++ ys)) else none
  | _, _ => none
def snoc (c : Cont) (v : AV) : Option Cont :=
  match c with
  | .typed e xs => bif v.cells.all AV.one then (v.as e).map fun x => .typed e (xs ++ [x]) else none
  | .raw a e d xs => bif (v.isAgg == a) && (v.size == e) && v.cells.all AV.one then some (.raw a e d (xs ++ [v])) else none
  | .deep .. => none
def ofL : List AV → Cont → Option Cont
  | [], c => some c
  | v :: vs, c => (c.snoc v).bind fun c' => ofL vs c'
/-- What a load finds at a cell of an element. -/
def part (ti : TI) : Cont → Nat → Nat → Option AV
  | .typed e xs, i, sub => partT ti.agg ti.size e (xs.getD i e.dflt) sub
  | .raw a es d xs, i, sub =>
    bif (sub == 0) && (ti.size == es) && (ti.agg == a) then some (xs.getD i d) else partC ti (xs.getD i d).cells sub
  | .deep _ e xs, i, sub => bif !ti.agg && (ti.size == 1) then wordAt e (xs.getD i e.dflt) sub else none
end Cont

structure Obj where
  c : Cont
  /-- Has its array no room for more? -/
  full : Bool

abbrev Heap := List (Option Obj)

/-- What the interpreter is told: types; which functions have a contract of their own; the slots that live at a region's begin. -/
abbrev Con := (ρ : Type) → List AV → Heap → (AV → Heap → Bool → Option ρ) → Option ρ
structure Env where
  ty : TypeId → Option TI
  con : FuncId → Option Con
  live : FuncId → Nat → Option (List Nat)

def lim : Nat := 35184372088832

def ofVal : Value → AV
  | .int k n => .int k n
  | .bool b => .bool b
  | .string s => .str s
  | .pointer none => .nilp
  | .slice none 0 0 => .nils
  | _ => .undef

def aeval (s : List AV) : Operand → AV
  | .tmp t => s.getD t .undef
  | .const v => ofVal v
  | .func f => .fn f []
  | .global _ => .undef

def hget (h : Heap) (id : Nat) : Option Obj := h.getD id none

/-- An empty row of a type. -/
def Cont.empty (ti : TI) : Cont :=
  match ti.code with
  | some e => .typed e []
  | none => .raw ti.agg ti.size ti.zero []

/-- So many zeros of a type. -/
def Cont.fill (ti : TI) (n : Nat) : Cont :=
  match ti.code with
  | some e => bif ti.deep && nodeless e then .deep false e (List.replicate n e.dflt) else .typed e (List.replicate n e.dflt)
  | none => .raw ti.agg ti.size ti.zero (List.replicate n ti.zero)

/-- What a slice value holds. -/
def rowOf (h : Heap) : AV → Option Cont
  | .sl id => (hget h id).map (·.c)
  | .ss id off n => (hget h id).map fun o => o.c.cut off n
  | .tv (.row e) xs => some (.typed e xs)
  | _ => none

def lenOf (h : Heap) : AV → Option Nat
  | .sl id => (hget h id).map (·.c.len)
  | .ss id _ n => (hget h id).map fun _ => n
  | .tv (.row _) xs => some (List.length xs)
  | .nils => some 0
  | _ => none

def splice (cs : List AV) (off : Nat) (vs : List AV) : List AV := cs.take off ++ (vs ++ cs.drop (off + vs.length))

def kindOf (E : Env) (t : TypeId) : Option TK := (E.ty t).map (·.kind)

/-- Are two structs of words one? Field by field. -/
def eqCells (E : Env) : List (Nat × TypeId) → List AV → List AV → Option Bool
  | [], [], [] => some true
  | (_, t) :: fs, .int k a :: xs, .int k' b :: ys =>
    (match kindOf E t with
     | some (.int _) => if k = k' then (eqCells E fs xs ys).map (fun r => (a == b) && r) else none
     | _ => none)
  | (_, t) :: fs, .bool a :: xs, .bool b :: ys =>
    (match kindOf E t with
     | some .bool => (eqCells E fs xs ys).map (fun r => (a == b) && r)
     | _ => none)
  | (_, t) :: fs, .str a :: xs, .str b :: ys =>
    (match kindOf E t with
     | some .str => (eqCells E fs xs ys).map (fun r => (a.toList == b.toList) && r)
     | _ => none)
  | _, _, _ => none

section ops
variable {ρ : Type}

def abinInt (op : BinOp) (k : IntKind) (a b : Int) (K : AV → Option ρ) : Option ρ :=
  match op with
  | .add => K (.int k (k.wrap (a + b)))
  | .sub => K (.int k (k.wrap (a - b)))
  | .mul => K (.int k (k.wrap (a * b)))
  | .quo => bif b == 0 then none else K (.int k (k.wrap (a.tdiv b)))
  | .rem => bif b == 0 then none else K (.int k (a.tmod b))
  | .and => K (.int k (k.wrap (BitVec.ofInt k.bits a &&& BitVec.ofInt k.bits b).toNat))
  | .or => K (.int k (k.wrap (BitVec.ofInt k.bits a ||| BitVec.ofInt k.bits b).toNat))
  | .xor => K (.int k (k.wrap (BitVec.ofInt k.bits a ^^^ BitVec.ofInt k.bits b).toNat))
  | .eql => K (.bool (a == b))
  | .neq => K (.bool (a != b))
  | .lss => K (.bool (decide (a < b)))
  | .leq => K (.bool (decide (a ≤ b)))
  | .gtr => K (.bool (decide (a > b)))
  | .geq => K (.bool (decide (a ≥ b)))
  | _ => none

def ashift (op : BinOp) (k : IntKind) (a b : Int) (K : AV → Option ρ) : Option ρ :=
  bif decide (b < 0) then none else
  match op with
  | .shl => K (.int k (k.wrap (a * 2 ^ (min b.toNat k.bits))))
  | .shr => K (.int k (a.fdiv (2 ^ (min b.toNat k.bits))))
  | _ => none

def abinStr (op : BinOp) (a b : ByteArray) (K : AV → Option ρ) : Option ρ :=
  match op with
  | .add => bif decide (a.size + b.size ≤ 9223372036854775807) then K (.str (a ++ b)) else none
  | .eql => K (.bool (a.toList == b.toList))
  | .neq => K (.bool (!(a.toList == b.toList)))
  | .lss => K (.bool (Op.bytesLess a.toList b.toList))
  | .leq => K (.bool (Op.bytesLess a.toList b.toList || a.toList == b.toList))
  | .gtr => K (.bool (!(Op.bytesLess a.toList b.toList || a.toList == b.toList)))
  | .geq => K (.bool (!(Op.bytesLess a.toList b.toList)))
  | _ => none

def isEq : BinOp → Option Bool
  | .eql => some true
  | .neq => some false
  | _ => none

def eqKind (E : Env) (t : TypeId) (op : BinOp) : Option (Bool × TK) :=
  match isEq op, E.ty t with
  | some e, some ti => some (e, ti.kind)
  | _, _ => none

def isAddr : AV → Bool
  | .ptr _ _ _ => true
  | .tp _ _ _ => true
  | .bp _ _ => true
  | _ => false

def abin (E : Env) (op : BinOp) (t : TypeId) (x y : AV) (K : AV → Option ρ) : Option ρ :=
  match x, y with
  | .int k a, .int k' b =>
    (match op with
     | .shl => ashift .shl k a b K
     | .shr => ashift .shr k a b K
     | op => if k = k' then abinInt op k a b K else none)
  | .str a, .str b => abinStr op a b K
  | .bool a, .bool b => (match eqKind E t op with | some (e, .bool) => K (.bool (bif e then a == b else !(a == b))) | _ => none)
  | x, y =>
    (match eqKind E t op with
     | some (e, .struct fs) =>
       bif x.isAgg && y.isAgg && (fs.zipIdx.all fun p => p.1.1 == p.2) then
       (match eqCells E fs x.cells y.cells with
        | some r => K (.bool (bif e then r else !r))
        | none => none) else none
     | some (e, .ptr _) =>
       (match x, y with
        | .nilp, .nilp => K (.bool e)
        | .nilp, y => bif isAddr y then K (.bool (!e)) else none
        | x, .nilp => bif isAddr x then K (.bool (!e)) else none
        | _, _ => none)
     | _ => none)

def aun (op : UnOp) (x : AV) (K : AV → Option ρ) : Option ρ :=
  match op, x with
  | .neg, .int k n => K (.int k (k.wrap (0 - n)))
  | .not, .bool b => K (.bool (!b))
  | _, _ => none

def bytesVal (xs : List Int) : ByteArray := ⟨(xs.map fun n => UInt8.ofNat n.toNat).toArray⟩
def valBytes (s : ByteArray) : List Int := s.data.toList.map fun b => (b.toNat : Int)
def byteAt (s : ByteArray) (i : Nat) : Int := match s[i]? with | some b => (b.toNat : Int) | none => 0

def aconv (E : Env) (src dst : TypeId) (x : AV) (h : Heap) (K : AV → Heap → Bool → Option ρ) : Option ρ :=
  match kindOf E src, kindOf E dst, x with
  | some (.int _), some (.int k), .int _ n => K (.int k (k.wrap n)) h false
  | some (.int _), some TK.str, .int _ n => K (.str (Utf8.encode n)) h false
  | some TK.str, some TK.str, .str s => K (.str s) h false
  | some TK.str, some (.slice e), .str s =>
    (match kindOf E e with
     | some (.int .u8) => K (.sl h.length) (h ++ [some ⟨.typed (.int .u8) (valBytes s), false⟩]) false
     | _ => none)
  | some (.slice e), some TK.str, x =>
    (match kindOf E e, rowOf h x with
     | some (.int .u8), some (.typed (.int .u8) xs) => K (.str (bytesVal xs)) h false
     | _, _ => none)
  | _, _, _ => none

/-- Bounds of a cut: both in their places, or nothing. -/
def withBounds (lo hi : Option AV) (len : Nat) (K : Nat → Nat → Option ρ) : Option ρ :=
  match hi with
  | some (.int _ b) =>
    bif decide (0 ≤ b) then bif decide (b ≤ (len : Int)) then
      (match lo with
       | some (.int _ a) => bif decide (0 ≤ a) then bif decide (a ≤ b) then K a.toNat b.toNat else none else none
       | none => K 0 b.toNat
       | _ => none) else none else none
  | none =>
      (match lo with
       | some (.int _ a) => bif decide (0 ≤ a) then bif decide (a ≤ (len : Int)) then K a.toNat len else none else none
       | none => K 0 len
       | _ => none)
  | _ => none

/-- How many cells a slice's element has. -/
def esOf (h : Heap) : AV → Option Nat
  | .sl id => (hget h id).map (·.c.es)
  | .ss id _ _ => (hget h id).map (·.c.es)
  | .tv (.row e) _ => some e.size
  | _ => none

/-- Of a slice type: is an element of it what the row's elements are? -/
def fits (E : Env) (t : TypeId) (x : AV) (h : Heap) : Bool :=
  match kindOf E t with
  | some (.slice e) => (match E.ty e, esOf h x with | some ti, some n => ti.size == n | _, _ => false)
  | _ => false

def isZero : Option AV → Bool
  | some (.int _ 0) => true
  | _ => false

def aslice (E : Env) (t : TypeId) (x : AV) (lo hi mx : Option AV) (h : Heap) (K : AV → Heap → Bool → Option ρ) : Option ρ :=
  match kindOf E t, x with
  | some TK.str, .str s => bif mx.isNone then withBounds lo hi s.size fun a b => K (.str (s.extract a b)) h false else none
  | some (.slice e), x =>
    bif (E.ty e).isNone then none else
    bif isZero mx then bif lo.isNone && isZero hi then (match lenOf h x with | some _ => K .nils h false | none => none) else none
    else bif mx.isNone then
    (match x with
     | .sl id =>
       (match hget h id with
        | some o => bif fits E t x h then withBounds lo hi o.c.len fun a b => K (.ss id a (b - a)) h false else none
        | none => none)
     | .ss id off n => bif fits E t x h then withBounds lo hi n fun a b => K (.ss id (off + a) (b - a)) h false else none
     | .tv (.row e) xs => bif fits E t x h then withBounds lo hi (List.length xs) fun a b => K (.tv (.row e) (List.take (b - a) (List.drop a xs))) h false else none
     | .nils => withBounds lo hi 0 fun _ _ => K .nils h false
     | _ => none)
    else none
  | _, _ => none

def aindexAddr (E : Env) (t : TypeId) (x : AV) (i : Int) (h : Heap) (K : AV → Heap → Bool → Option ρ) : Option ρ :=
  bif fits E t x h then
  (match x with
  | .sl id =>
    (match hget h id with
     | some o => bif decide (0 ≤ i) then bif decide (i < (o.c.len : Int)) then K (.ptr id i.toNat 0) h false else none else none
     | none => none)
  | .ss id off n => bif decide (0 ≤ i) then bif decide (i < (n : Int)) then K (.ptr id (off + i.toNat) 0) h false else none else none
  | .tv (.row e) xs => bif decide (0 ≤ i) then bif decide (i < (List.length xs : Int)) then K (.tp e (List.getD xs i.toNat e.dflt) 0) h false else none else none
  | _ => none)
  else none

/-- Does a load find a row inside a deep row's element? -/
def dpOk (ti : TI) (c : Cont) (sub : Nat) : Bool :=
  match c with
  | .deep true e _ => !ti.agg && (ti.size == 1) && (rowAt e sub).isSome
  | _ => false

/-- A new value of cells, taken out of the heap: the typed value, and the rows that it takes. -/
def takeT (h : Heap) : (t : Ty) → List AV → Option (t.C × List Nat)
  | .int k, [.int k' n] => if k = k' then some (n, []) else none
  | .bool, [.bool b] => some (b, [])
  | .str, [.str s] => some (s, [])
  | .row e, [.nils] => bif Nat.blt 0 e.size then some ([], []) else none
  | .row e, [.sl id] =>
    (match hget h id with
     | some ⟨.deep _ f xs, _⟩ => if hf : f = e then some (Ty.castR hf xs, [id]) else none
     | some ⟨.typed f xs, _⟩ => if hf : f = e then (bif flatT e then some (Ty.castR hf xs, [id]) else none) else none
     | _ => none)
  | .unit, [] => some ((), [])
  | .pair a b, cs => (takeT h a (cs.take a.size)).bind fun x => (takeT h b (cs.drop a.size)).map fun y => ((x.1, y.1), x.2 ++ y.2)
  | _, _ => none

def killAll (h : Heap) : List Nat → Heap
  | [] => h
  | id :: ids => killAll (h.set id none) ids

/-- Is each number there once? -/
def once : List Nat → Bool
  | [] => true
  | x :: xs => !xs.contains x && once xs

/-- What a store into a deep row leaves. -/
def storeD (ti : TI) (h : Heap) (id idx sub : Nat) (fx : Bool) (e : Ty) (xs : List e.C) (full : Bool) (v : AV) : Option Heap :=
  (match setW e (xs.getD idx e.dflt) sub v with
   | some x => bif (ti.size == 1) && !ti.agg then some (h.set id (some ⟨.deep fx e (xs.set idx x), full⟩)) else none
   | none =>
     bif !fx && (sub == 0) && (ti.size == e.size) && (ti.agg == e.isAgg) && (v.size == e.size) && (v.isAgg == e.isAgg) then
     (match takeT h e v.cells with
      | some (x, ids) => bif once ids && !ids.contains id then some ((killAll h ids).set id (some ⟨.deep fx e (xs.set idx x), full⟩)) else none
      | none => none) else none)

def aload (E : Env) (t : TypeId) (x : AV) (h : Heap) (K : AV → Option ρ) : Option ρ :=
  match E.ty t with
  | none => none
  | some ti =>
    match x with
    | .ptr id idx sub =>
      (match hget h id with
       | some o => bif dpOk ti o.c sub then K (.dp id idx sub) else (match o.c.part ti idx sub with | some v => K v | none => none)
       | none => none)
    | .tp e y sub => (match partT ti.agg ti.size e y sub with | some v => K v | none => none)
    | .bp cs sub => (match partC ti cs sub with | some v => K v | none => none)
    | _ => none

/-- What a store of a value leaves at an element. -/
def stored (ti : TI) (es : Nat) (e : AV) (sub : Nat) (v : AV) : AV :=
  bif (sub == 0) && (ti.size == es) && (ti.agg == e.isAgg) then v else .agg (splice e.cells sub v.cells)

def astore (E : Env) (t : TypeId) (x v : AV) (h : Heap) (K : Heap → Option ρ) : Option ρ :=
  match E.ty t, x with
  | some ti, .ptr id idx sub =>
    (match hget h id with
     | some ⟨.deep fx e xs, full⟩ => (match storeD ti h id idx sub fx e xs full v with | some h' => K h' | none => none)
     | some o =>
       bif (v.size == ti.size) && (v.isAgg == ti.agg) && v.cells.all AV.one && Nat.ble (sub + ti.size) o.c.es then
         (match o.c.set idx (stored ti o.c.es (o.c.get idx) sub v) with
          | some c => K (h.set id (some { o with c }))
          | none => none)
       else none
     | none => none)
  | _, _ => none

def foldParts (fs : List (Nat × TypeId)) (E : Env) : List (Nat × AV) → List AV → Option (List AV)
  | [], cs => some cs
  | (i, v) :: rest, cs =>
    match fs[i]? with
    | none => none
    | some (off, t) =>
      match E.ty t with
      | none => none
      | some ti => bif (v.size == ti.size) && v.cells.all AV.one && Nat.ble (off + v.size) cs.length then foldParts fs E rest (splice cs off v.cells) else none

def ascending : List (Nat × AV) → Nat → Bool
  | [], _ => true
  | (i, _) :: rest, k => (i == k) && ascending rest (k + 1)

def Cont.isNil : Cont → Bool
  | .typed _ [] => true
  | .raw _ _ _ [] => true
  | _ => false

/-- What is appended. -/
def srcOf (ti : TI) (h : Heap) (y : AV) : Option Cont := match y with | .nils => some (Cont.empty ti) | .str s => some (.typed (.int .u8) (valBytes s)) | y => rowOf h y

/-- The row that an append makes of what came first. -/
def aappend (E : Env) (e : TypeId) (x y : AV) (h : Heap) (K : AV → Heap → Bool → Option ρ) : Option ρ :=
  match E.ty e with
  | none => none
  | some ti =>
    bif Nat.blt 0 ti.size && Nat.blt 0 ti.bytes then
    (match srcOf ti h y with
     | none => none
     | some ys =>
       (match x with
        | .sl id =>
          (match hget h id with
           | some o =>
             bif (o.c.es == ti.size) && (ys.es == ti.size) then
             (match o.c.app ys with
              | some c => bif decide (c.len * ti.bytes ≤ lim) then
                  (bif o.full && o.c.isNil then K (.sl h.length) (h ++ [some ⟨c, false⟩]) false
                   else K (.sl h.length) (h.set id none ++ [some ⟨c, false⟩]) true) else none
              | none => none) else none
           | none => none)
        | .ss id off n =>
          (match hget h id with
           | some o =>
             bif (o.c.es == ti.size) && (ys.es == ti.size) then
             (match (o.c.cut off n).app ys with
              | some c => bif decide (c.len * ti.bytes ≤ lim) then K (.sl h.length) (h.set id none ++ [some ⟨c, false⟩]) true else none
              | none => none) else none
           | none => none)
        | .nils =>
          bif (ys.es == ti.size) then
          (match (Cont.empty ti).app ys with
           | some c => bif decide (c.len * ti.bytes ≤ lim) then K (.sl h.length) (h ++ [some ⟨c, false⟩]) false else none
           | none => none) else none
        | _ => none))
    else none

/-- A row whose head is put anew. -/
def Cont.over (c ys : Cont) : Option Cont :=
  match c, ys with
  | .typed e xs, .typed f zs => if h : f = e then some (.typed e (List.take xs.length (Ty.castR h zs) ++ List.drop (List.length zs) xs)) else none
  | .raw a e d xs, .raw a' e' _ zs => bif (a == a') && (e == e') then some (.raw a e d (zs.take xs.length ++ xs.drop zs.length)) else none
  | _, _ => none

def abest (op : Int → Int → Int) (k : IntKind) : Int → List AV → Option Int
  | x, [] => some x
  | x, .int k' y :: rest => if k = k' then abest op k (op x y) rest else none
  | _, _ => none

def mx (x y : Int) : Int := bif decide (y > x) then y else x
def mn (x y : Int) : Int := bif decide (y < x) then y else x

def abuiltin (E : Env) (b : Builtin) (ts : List TypeId) (xs : List AV) (h : Heap) (K : AV → Heap → Bool → Option ρ) : Option ρ :=
  match b, xs, ts with
  | .append, [x, y], t :: u :: _ =>
       (match kindOf E t, kindOf E u with
        | some (.slice e), some (.slice _) => aappend E e x y h K
        | some (.slice e), some TK.str => aappend E e x y h K
        | _, _ => none)
  | .len, [x], t :: _ =>
       (match kindOf E t, x with
        | some TK.str, .str s => K (.int .i64 (s.size : Int)) h false
        | some (.slice _), x => (match lenOf h x with | some n => K (.int .i64 (n : Int)) h false | none => none)
        | _, _ => none)
  | .max, .int k x :: rest, _ => (match abest mx k x rest with | some n => K (.int k n) h false | none => none)
  | .min, .int k x :: rest, _ => (match abest mn k x rest with | some n => K (.int k n) h false | none => none)
  | .copy, [.sl id, y], t :: _ =>
       (match kindOf E t, hget h id with
        | some (.slice _), some o =>
          bif fits E t (.sl id) h then
          (match y with
           | .nils => K (.int .i64 0) h false
           | y =>
             (match rowOf h y with
              | some ys =>
                (match o.c.over ys with
                 | some c => K (.int .i64 ((min ys.len o.c.len : Nat) : Int)) (h.set id (some { o with c })) true
                 | none => none)
              | none => none)) else none
        | _, _ => none)
  | .clear, [.sl id], t :: _ =>
       (match kindOf E t, hget h id with
        | some (.slice e), some o =>
          (match E.ty e with
           | some ti => bif (o.c.es == ti.size) && !ti.deep then K (.tup []) (h.set id (some { o with c := Cont.fill ti o.c.len })) true else none
           | none => none)
        | _, _ => none)
  | _, _, _ => none

/-- What a call does: callee, args, heap; and whether it may have changed what was there. -/
abbrev Call (ρ : Type) := FuncId → List AV → Heap → (AV → Heap → Bool → Option ρ) → Option ρ

def aop (E : Env) (call : Call ρ) (s : List AV) (h : Heap) (op : Op) (K : AV → Heap → Bool → Option ρ) : Option ρ :=
  match op with
  | .move x => K (aeval s x) h false
  | .assign x => K (aeval s x) h false
  | .pick c a b =>
    (match aeval s c with
     | .bool t => bif t then K (aeval s a) h false else K (aeval s b) h false
     | _ => none)
  | .alloc t => (match E.ty t with | some ti => K (.ptr h.length 0 0) (h ++ [some ⟨.raw ti.agg ti.size ti.zero [ti.zero], true⟩]) false | none => none)
  | .box t x =>
    (match E.ty t with
     | some ti => bif ((aeval s x).isAgg == ti.agg) && ((aeval s x).size == ti.size) && (aeval s x).cells.all AV.one then K (.ptr h.length 0 0) (h ++ [some ⟨.raw ti.agg ti.size ti.zero [aeval s x], true⟩]) false else none
     | none => none)
  | .build t ps =>
    (match E.ty t with
     | some ⟨.struct fs, _, _, z, _, _⟩ =>
       (match foldParts fs E (ps.toList.map fun p => (p.1, aeval s p.2)) z.cells with
        | some cs => K (.agg cs) h false
        | none => none)
     | _ => none)
  | .buildSlice t n ps =>
    (match kindOf E t with
     | some (.slice e) =>
       (match E.ty e with
        | some ti =>
          bif ascending (ps.toList.map fun p => (p.1, aeval s p.2)) 0 && (ps.size == n) && Nat.ble (n * ti.size) 16777216 then
          (match Cont.ofL (ps.toList.map fun p => aeval s p.2) (Cont.empty ti) with
           | some c => K (.sl h.length) (h ++ [some ⟨c, true⟩]) false
           | none => none) else none
        | none => none)
     | _ => none)
  | .load t a => aload E t (aeval s a) h fun v => K v h false
  | .store t a x => astore E t (aeval s a) (aeval s x) h fun h' => K .undef h' true
  | .nilCheck x =>
    (match aeval s x with
     | .ptr i j l => K (.ptr i j l) h false
     | .tp t y j => K (.tp t y j) h false
     | .bp cs j => K (.bp cs j) h false
     | .fn f cs => K (.fn f cs) h false
     | _ => none)
  | .binOp op t x y _ => abin E op t (aeval s x) (aeval s y) fun v => K v h false
  | .unOp op _ x => aun op (aeval s x) fun v => K v h false
  | .convert src dst x => aconv E src dst (aeval s x) h K
  | .makeFunc (.func f) first caps => bif first.size == 0 then K (.fn f (caps.toList.map (aeval s))) h false else none
  | .makeSlice t l c =>
    (match kindOf E t, aeval s l, aeval s c with
     | some (.slice e), .int _ n, .int _ m =>
       (match E.ty e with
        | some ti =>
          bif decide (0 ≤ n) then bif decide (n ≤ m) then bif decide (m * ti.bytes ≤ (lim : Int)) then bif decide (m ≤ (lim : Int)) && Nat.blt 0 ti.size then
          K (.sl h.length) (h ++ [some ⟨Cont.fill ti n.toNat, false⟩]) false else none else none else none else none
        | none => none)
     | _, _, _ => none)
  | .slice t x lo hi mx => aslice E t (aeval s x) (lo.map (aeval s)) (hi.map (aeval s)) (mx.map (aeval s)) h K
  | .fieldAddr t x j =>
    (match E.ty t with
     | some ⟨.struct fs, _, _, _, _, _⟩ =>
       (match fs[j]? with
        | some (off, _) =>
          (match aeval s x with
           | .ptr id idx sub => K (.ptr id idx (sub + off)) h false
           | .tp t y sub => K (.tp t y (sub + off)) h false
           | .bp cs sub => K (.bp cs (sub + off)) h false
           | _ => none)
        | none => none)
     | _ => none)
  | .field t x j =>
    (match E.ty t with
     | some ⟨.struct fs, _, _, _, _, _⟩ =>
       (match fs[j]? with
        | some (off, ft) =>
          (match E.ty ft with
           | some ti => (match partV ti (aeval s x) off with | some v => K v h false | none => none)
           | none => none)
        | none => none)
     | _ => none)
  | .indexAddr t x i => (match aeval s i with | .int _ n => aindexAddr E t (aeval s x) n h K | _ => none)
  | .index t x i =>
    (match kindOf E t, aeval s x, aeval s i with
     | some TK.str, .str b, .int _ n => bif decide (0 ≤ n) then bif decide (n < (b.size : Int)) then K (.int .u8 (byteAt b n.toNat)) h false else none else none
     | _, _, _ => none)
  | .extract x j => (match aeval s x with | .tup vs => (match vs[j]? with | some v => K v h false | none => none) | _ => none)
  | .call c =>
    (match c.callee with
     | .builtin b => abuiltin E b c.argTypes.toList (c.args.toList.map (aeval s)) h K
     | .value f =>
       (match aeval s f with
        | .fn g caps => call g (c.args.toList.map (aeval s) ++ caps) h K
        | _ => none)
     | _ => none)
  | _ => none

structure St where
  s : List AV
  h : Heap

def putSlot (s : List AV) (dst : Option Nat) (v : AV) : List AV :=
  match dst with
  | some d => s.set d v
  | none => s

/-- Does an operation look into memory, or make some? -/
def heapy : Op → Bool
  | .alloc _ | .box _ _ | .buildSlice .. | .load .. | .store .. | .convert .. | .makeSlice .. | .indexAddr .. | .slice .. | .call _ => true
  | _ => false

/-- Does a value tell of a row of the heap? So many levels deep. -/
def tells (id : Nat) : Nat → AV → Bool
  | 0, _ => true
  | d + 1, v =>
    match v with
    | .ptr i _ _ => i == id
    | .sl i => i == id
    | .ss i _ _ => i == id
    | .dp i _ _ => i == id
    | .agg cs => cs.any (tells id d)
    | .tup vs => vs.any (tells id d)
    | .fn _ cs => cs.any (tells id d)
    | .bp cs _ => cs.any (tells id d)
    | _ => false

/-- Does one of them? -/
def touch (id : Nat) (vs : List AV) : Bool := vs.any (tells id 4)

/-- What an operation is given. -/
def opVals (s : List AV) (op : Op) : List AV := op.operands.toList.map (aeval s)

/-- The rows of the heap that an operation looks at, and no more; none: it may look at all, or make some. -/
def lookOf (s : List AV) (op : Op) : Option (List Nat) :=
  match op with
  | .load _ a => (match aeval s a with | .ptr id _ _ => some [id] | .tp _ _ _ => some [] | .bp _ _ => some [] | _ => none)
  | .slice _ x _ _ _ => (match aeval s x with | .str _ => some [] | .tv _ _ => some [] | .nils => some [] | .sl id => some [id] | .ss id _ _ => some [id] | _ => none)
  | .indexAddr _ x _ => (match aeval s x with | .tv _ _ => some [] | .sl id => some [id] | .ss id _ _ => some [id] | _ => none)
  | .convert _ _ x => (match aeval s x with | .int _ _ => some [] | _ => none)
  | op => bif heapy op then none else some []

/-- What is known of an operation that ran: did it change what was there, what was it given, what did it look at. -/
structure Mk where
  m : Bool
  t : List AV
  l : Option (List Nat)

/-- A region's operations in the text's order, with the marks of each. -/
def aops (E : Env) (call : Call ρ) (all : Array Oper) : List Oper → List Mk → St → (List Mk → St → Option ρ) → Option ρ
  | [], ms, st, K => K ms st
  | o :: rest, ms, st, K =>
    match o.guard with
    | none => aop E call st.s st.h o.op fun v h m => aops E call all rest (ms ++ [⟨m, opVals st.s o.op, lookOf st.s o.op⟩]) ⟨putSlot st.s o.dst v, h⟩ K
    | some (j, want) =>
      match (all[j]?).bind (·.dst) with
      | some d =>
        (match st.s.getD d .undef with
         | .bool b =>
           bif (bif want then b else !b) then aop E call (st.s.set d (.bool want)) st.h o.op fun v h m => aops E call all rest (ms ++ [⟨m, opVals st.s o.op, lookOf st.s o.op⟩]) ⟨putSlot (st.s.set d (.bool want)) o.dst v, h⟩ K
           else aops E call all rest (ms ++ [⟨false, [], some []⟩]) ⟨putSlot (st.s.set d (.bool !want)) o.dst (.tup []), st.h⟩ K
         | .tup _ => aops E call all rest (ms ++ [⟨false, [], some []⟩]) ⟨putSlot st.s o.dst (.tup []), st.h⟩ K
         | _ => none)
      | none => none

/-- Is one of two operations, not of one place, bound to go ahead: the earlier in the text? -/
def ahead (bs : List Nat) (i j : Nat) : Bool := bif Nat.blt i j then (bs.getD j 0).testBit i else (bs.getD i 0).testBit j

/-- Does each edge lead back in the text? -/
def backOk (ops : Array Oper) : Bool :=
  (List.range ops.size).all fun i => match ops[i]? with | some o => o.after.toList.all fun e => !Region.binds .any e || Nat.blt e.on i | none => true

/-- Is each slot written once, and ordered against all that look at it? -/
def dataOk (ops : Array Oper) (bs : List Nat) : Bool :=
  (List.range ops.size).all fun i => match (ops[i]?).bind (·.dst) with
    | none => true
    | some d => (List.range ops.size).all fun j => match ops[j]? with
      | none => true
      | some o => (i == j) || ((o.dst != some d) && (!(o.looksAt ops).contains d || ahead bs i j))

/-- May an operation that looks see what a change does? 'n': how many rows there were ahead of the region. -/
def meets (n : Nat) (t : List AV) (l : Option (List Nat)) : Bool :=
  match l with
  | none => true
  | some l => !(l.all fun id => Nat.blt id n && !touch id t)

/-- Is each operation that changed memory ordered against all that may see it? -/
def orderOk (n : Nat) (ops : Array Oper) (bs : List Nat) (ms : List Mk) : Bool :=
  (List.range ops.size).all fun i => match ms[i]? with
    | none => true
    | some a => !a.m || (List.range ops.size).all fun j => (i == j) || (match ms[j]? with | none => true | some b => !meets n a.t b.l) || ahead bs i j

def drawOk (n : Nat) (ops : Array Oper) (ms : List Mk) : Bool :=
  let bs := (Region.before ops).toList
  backOk ops && dataOk ops bs && (bif ms.any (·.m) then orderOk n ops bs ms else true)

def aregion (E : Env) (call : Bool → Call ρ) (ops : Array Oper) (draw : Bool) (st : St) (K : St → Option ρ) : Option ρ :=
  aops E (call draw) ops ops.toList [] st fun ms st' => bif !draw || drawOk st.h.length ops ms then K st' else none

inductive Out where
  | normal
  | exit (id : Nat)
  | ret

/-! Values anew: another numbering of the heap, with what is not told struck. -/

def findIx (id : Nat) : List Nat → Nat → Option Nat
  | [], _ => none
  | x :: xs, k => bif x == id then some k else findIx id xs (k + 1)

/-- A value under a new numbering: 'd' levels deep. -/
def ren (r : Nat → Option Nat) : Nat → AV → AV
  | 0, _ => .undef
  | d + 1, v =>
    match v with
    | .ptr id i j => (match r id with | some id' => .ptr id' i j | none => .undef)
    | .sl id => (match r id with | some id' => .sl id' | none => .undef)
    | .ss id off n => (match r id with | some id' => .ss id' off n | none => .undef)
    | .dp id i j => (match r id with | some id' => .dp id' i j | none => .undef)
    | .agg cs => .agg (cs.map (ren r d))
    | .tup vs => .tup (vs.map (ren r d))
    | .fn f cs => .fn f (cs.map (ren r d))
    | .bp cs j => .bp (cs.map (ren r d)) j
    | v => v

def renC (r : Nat → Option Nat) (d : Nat) : Cont → Cont
  | .raw a e z xs => .raw a e (ren r d z) (xs.map (ren r d))
  | c => c

def renO (r : Nat → Option Nat) (o : Obj) : Obj := { o with c := renC r 3 o.c }

/-- The rows that a value leads to, straight. -/
def refs : Nat → AV → List Nat
  | 0, _ => []
  | d + 1, v =>
    match v with
    | .ptr id _ _ => [id]
    | .sl id => [id]
    | .ss id _ _ => [id]
    | .dp id _ _ => [id]
    | .agg cs => cs.flatMap (refs d)
    | .tup vs => vs.flatMap (refs d)
    | .fn _ cs => cs.flatMap (refs d)
    | .bp cs _ => cs.flatMap (refs d)
    | _ => []

def refsC : Cont → List Nat
  | .raw _ _ _ [x] => refs 3 x
  | _ => []

/-- All rows that values lead to, each once, in the order in which they are met. -/
def roots (h : Heap) : Nat → List Nat → List Nat → List Nat
  | 0, seen, _ => seen
  | _, seen, [] => seen
  | n + 1, seen, x :: todo =>
    bif seen.contains x then roots h n seen todo
    else match hget h x with
      | some o => roots h n (seen ++ [x]) (refsC o.c ++ todo)
      | none => roots h n seen todo

def srcHeap (h : Heap) (src : List Nat) : Heap := src.map fun id => (hget h id).map (renO fun x => findIx x src 0)

/-- A state with the named slots alone, its heap numbered anew; the first rows, which came in, keep their numbers. -/
def canon (p : Nat) (live : List Nat) (st : St) : St :=
  let src := roots st.h 64 (List.range p) (live.flatMap fun t => refs 3 (st.s.getD t .undef))
  ⟨(List.range st.s.length).map fun t => bif live.contains t then ren (fun x => findIx x src 0) 3 (st.s.getD t .undef) else .undef, srcHeap st.h src⟩

/-- Values by value: what they lead to stays as it is from now on. -/
def deref (h : Heap) : Nat → AV → AV
  | 0, _ => .undef
  | d + 1, v =>
    match v with
    | .sl id => (match hget h id with | some ⟨.typed e xs, _⟩ => .tv (.row e) xs | some ⟨.deep _ e xs, _⟩ => .tv (.row e) xs | _ => .undef)
    | .ss id off n => (match hget h id with | some ⟨.typed e xs, _⟩ => .tv (.row e) (List.take n (List.drop off xs)) | _ => .undef)
    | .ptr id idx sub =>
      (match hget h id with
       | some ⟨.typed e xs, _⟩ => .tp e (xs.getD idx e.dflt) sub
       | some ⟨.raw _ _ z xs, _⟩ => .bp ((xs.getD idx z).cells.map (deref h d)) sub
       | _ => .undef)
    | .dp _ _ _ => .undef
    | .agg cs => .agg (cs.map (deref h d))
    | .tup vs => .tup (vs.map (deref h d))
    | .fn f cs => .fn f (cs.map (deref h d))
    | .bp cs j => .bp (cs.map (deref h d)) j
    | v => v

/-- A value of one cell that leads to no row of the heap. -/
def simpleV : AV → Bool
  | .int _ _ => true
  | .bool _ => true
  | .str _ => true
  | .nilp => true
  | .nils => true
  | .tv _ _ => true
  | .tp _ _ _ => true
  | _ => false

/-- A value that leads to no row of the heap. -/
def noRef : AV → Bool
  | .agg cs => cs.all simpleV
  | .fn _ cs => cs.all simpleV
  | v => simpleV v

/-- A value of words alone. -/
def flatV : AV → Bool
  | .int _ _ => true
  | .bool _ => true
  | .str _ => true
  | .tup vs => vs.all fun v => match v with | .int _ _ => true | .bool _ => true | .str _ => true | _ => false
  | _ => false

/-- A contract over args by value, whose result stays. -/
def byVal (m : (ρ : Type) → List AV → (AV → Option ρ) → Option ρ) : Con := fun ρ args h K =>
  m ρ (args.map (deref h 8)) fun v => bif args.all noRef || flatV v then K v h false else none

/-- No contract. -/
def noCon : Con := fun _ _ _ _ => none

/-- A function at a number of rounds: args, heap. -/
abbrev Run := (ρ : Type) → FuncId → List AV → Heap → (AV × Heap → Option ρ) → Option ρ

def acall (E : Env) (run : Run) (draw : Bool) : Call ρ := fun f args h K =>
  match E.con f with
  | some m => m ρ args h K
  | none => bif draw then none else run ρ f args h fun r => K r.1 r.2 true

/-- The first region of a piece of code. -/
def first : Code → Option Nat
  | .region id _ _ => some id
  | .seq a b => (first a).or (first b)
  | .block _ b => first b
  | .loop b => first b
  | _ => none

/-- The first region, where no loop begins ahead of it. -/
def firstJ : Code → Option Nat
  | .region id _ _ => some id
  | .seq a b => (firstJ a).or (match a with | .skip => firstJ b | _ => none)
  | .block _ b => firstJ b
  | _ => none

/-- How many rows came in that the function writes: told beside its regions. -/
def pinsOf (E : Env) (f : FuncId) : Nat := match E.live f 999999 with | some (p :: _) => p | _ => 0

def prune (E : Env) (f : FuncId) (b : Code) (st : St) : St :=
  match (first b).bind (E.live f) with
  | some live => canon (pinsOf E f) live st
  | none => st

/-- Where much meets: the state with what lives. -/
def gate (n : Nat) (x : Option ρ) : Option ρ :=
  match n with
  | 0 => none
  | _ + 1 => x

/-- The run behind such a place takes a round; its rest is a run of its own. -/
def enter (E : Env) (f : FuncId) (n : Nat) (b : Code) (st : St) (K : St → Option ρ) : Option ρ :=
  match (firstJ b).bind (E.live f) with
  | some live => gate n (K (canon (pinsOf E f) live st))
  | none => K st

def aloop (pr : St → St) (body : St → (Out → St → Option ρ) → Option ρ) : Nat → St → (Out → St → Option ρ) → Option ρ
  | 0, _, _ => none
  | n + 1, st, K => body st fun o st' => match o with | .normal => aloop pr body n (pr st') K | o => K o st'

def seqK (E : Env) (f : FuncId) (n : Nat) (b : Code) (run : St → Option ρ) (K : Out → St → Option ρ) : Out → St → Option ρ
  | .normal, st => enter E f n b st run
  | o, st => K o st

def blockK (id : Nat) (K : Out → St → Option ρ) : Out → St → Option ρ
  | .exit i, st => bif i == id then K .normal st else K (.exit i) st
  | o, st => K o st

/-- The slots, a test of them decided. -/
def known (s : List AV) (c : Operand) (b : Bool) : List AV :=
  match c with
  | .tmp t => s.set t (.bool b)
  | _ => s

def aexec (E : Env) (f : FuncId) (call : Bool → Call ρ) (n : Nat) : Code → St → (Out → St → Option ρ) → Option ρ
  | .skip, st, K => K .normal st
  | .region _ ops draw, st, K => aregion E call ops draw st (K .normal)
  | .seq a b, st, K => aexec E f call n a st (seqK E f n b (fun st' => aexec E f call n b st' K) K)
  | .cond c x y, st, K =>
    (match aeval st.s c with
     | .bool b => bif b then aexec E f call n x ⟨known st.s c true, st.h⟩ K else aexec E f call n y ⟨known st.s c false, st.h⟩ K
     | _ => none)
  | .block id b, st, K => aexec E f call n b st (blockK id K)
  | .loop b, st, K => aloop (prune E f b) (fun st K => aexec E f call n b st K) n (prune E f b st) K
  | .exit id, st, K => K (.exit id) st
  | .ret, st, K => K .ret st
  | _, _, _ => none

def loopK (pr : St → St) (body : St → (Out → St → Option ρ) → Option ρ) (m : Nat) (K : Out → St → Option ρ) : Out → St → Option ρ
  | .normal, st => aloop pr body m (pr st) K
  | o, st => K o st

/-- The code of a function from a place of it on: loops around it have rounds of their own left. -/
def resume (E : Env) (f : FuncId) (call : Bool → Call ρ) (n : Nat) : List Bool → List Nat → Code → St → (Out → St → Option ρ) → Option ρ
  | [], m :: _, .loop b, st, K => aloop (prune E f b) (fun st K => aexec E f call n b st K) m st K
  | [], _, c, st, K => aexec E f call n c st K
  | true :: p, ms, .seq _ b, st, K => resume E f call n p ms b st K
  | false :: p, ms, .seq a b, st, K => resume E f call n p ms a st (seqK E f n b (fun st' => aexec E f call n b st' K) K)
  | true :: p, ms, .cond _ _ y, st, K => resume E f call n p ms y st K
  | false :: p, ms, .cond _ x _, st, K => resume E f call n p ms x st K
  | _ :: p, ms, .block id b, st, K => resume E f call n p ms b st (blockK id K)
  | _ :: p, m :: ms, .loop b, st, K => resume E f call n p ms b st (loopK (prune E f b) (fun st K => aexec E f call n b st K) m K)
  | _, _, _, _, _ => none

/-- A function's results. -/
def aresults (E : Env) (fn : Func) (st : St) : Option (AV × Heap) :=
  let one (r : ResultVar) : Option AV :=
    match r with
    | .tmp t => some (st.s.getD t .undef)
    | .cell t ty => aload E ty (st.s.getD t .undef) st.h some
  match fn.results.toList with
  | [] => some (.tup [], st.h)
  | [r] => (one r).map fun v => (v, st.h)
  | [r, q] => (match one r, one q with | some v, some w => some (.tup [v, w], st.h) | _, _ => none)
  | [r, q, p] => (match one r, one q, one p with | some v, some w, some u => some (.tup [v, w, u], st.h) | _, _, _ => none)
  | _ => none

/-- What is told of the end of a function. -/
def leave (E : Env) (fn : Func) (fin : AV × Heap → Option ρ) : Out → St → Option ρ
  | .normal, st => (aresults E fn st).bind fin
  | .ret, st => (aresults E fn st).bind fin
  | _, _ => none

def begin (fn : Func) (args : List AV) (h : Heap) : St := ⟨args ++ List.replicate (fn.ntmps - args.length) .undef, h⟩

/-- The function's own run: what it comes to is handed to 'fin'. -/
def abody (E : Env) (run : Run) (k : Nat) (f : FuncId) (fn : Func) (args : List AV) (h : Heap) (fin : AV × Heap → Option ρ) : Option ρ :=
  match fn.body with
  | some c => aexec E f (acall E run) k c (begin fn args h) (leave E fn fin)
  | none => none

end ops

def arun (P : Program) (E : Env) : Nat → Run
  | 0, _, _, _, _, _ => none
  | k + 1, _, f, args, h, fin =>
    match P.funcs[f]? with
    | some fn => abody E (arun P E k) k f fn args h fin
    | none => none

end Go.AM
namespace Go.AM
def bodyOf (fn : Func) : Code := fn.body.getD .skip
/-- A call's several results read as of types, one by one. -/
def tupAs : (t : Ty) → List AV → Option t.C
  | .unit, [] => some ()
  | .pair a b, v :: vs => (v.as a).bind fun x => (tupAs b vs).map fun y => (x, y)
  | _, _ => none
/-- One result by value, read as of a type. -/
def fin1 (t : Ty) (r : AV × Heap) : Option t.C := (deref r.2 8 r.1).as t
/-- Several results. -/
def finN (t : Ty) (r : AV × Heap) : Option t.C := match deref r.2 8 r.1 with | .tup vs => tupAs t vs | _ => none
/-- Several typed values. -/
def outs : (t : Ty) → t.C → List AV
  | .pair a b, x => tvn a x.1 :: outs b x.2
  | _, _ => []
end Go.AM
