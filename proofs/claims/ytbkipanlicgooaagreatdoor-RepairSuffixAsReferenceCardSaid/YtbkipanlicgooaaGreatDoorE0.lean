/-
  The abstract machine: values whose addresses are ids, a heap of ids, the operations. Definitions alone.
-/
import Derived.Control
import Derived.Laws.World
import Derived.Laws.CopyRow
import Derived.Laws.Entries
import Derived.Laws.StructEq
import Derived.Laws.Concat
import Derived.Laws.BytesString
namespace Go.Proofs.YtbkipanlicgooaaGreatDoor

/-- Tries over natural numbers: the root is 0; the odd ones lie at the left, the even ones at the right. -/
inductive Tr (α : Type) where
  | nil
  | node (l : Tr α) (v : Option α) (r : Tr α)

namespace Tr
variable {α : Type}
def get : Tr α → Nat → Option α
  | .nil, _ => none
  | .node l v r, n => match n with
    | 0 => v
    | m + 1 => match Nat.beq (m % 2) 0 with
      | true => l.get (m / 2)
      | false => r.get (m / 2)
def set : Tr α → Nat → Option α → Tr α
  | .nil, n, x => match n with
    | 0 => .node .nil x .nil
    | _ + 1 => .nil
  | .node l v r, n, x => match n with
    | 0 => .node l x r
    | m + 1 => match Nat.beq (m % 2) 0 with
      | true => .node (l.set (m / 2) x) v r
      | false => .node l v (r.set (m / 2) x)
/-- A full tree of a depth, without a value. -/
def full : Nat → Tr α
  | 0 => .nil
  | n + 1 => .node (full n) none (full n)
end Tr

/-- Values whose addresses are ids of the abstract heap; S and dp stand for memory that never changes (old: perhaps older than the call that is run). -/
inductive V where
  | b (x : Bool)
  | i (k : IntKind) (n : Int)
  | s (l : List Nat)
  | p0
  | p (id off : Nat)
  | dp (old : Bool) (cs : List V) (off : Nat)
  | s0
  /-- A slice without elements that is not nil. -/
  | se
  /-- A slice: the capacity is cap (fix), or the block's less cap. -/
  | sl (id off len cap : Nat) (fix : Bool)
  | S (old : Bool) (cs : List V) (len : Nat)
  | m0
  | m (id : Nat)
  | f (g : FuncId) (first cap : List V)
  | f0
  | y (id : Nat)
  | ifc (t : TypeId) (v : V)
  | i0
  | agg (l : List V)
  | tup (l : List V)

def V.cells : V → List V
  | .agg l => l
  | v => [v]
def V.isCell : V → Bool
  | .agg _ => false
  | .tup _ => false
  | _ => true
abbrev uV : V := .tup []

/-- What the machine knows of a type. -/
inductive TK where
  | none
  | bool
  | str
  | int (k : IntKind)
  | struct (fs : List (Nat × Nat × TypeId))
  | array (len : Nat) (e : TypeId) (sz : Nat)
  | slice (e : TypeId) (sz : Nat)
  | ptr (e : TypeId)
  | map (k v : TypeId)
  | iface
  | uptr
  | func
structure TI where
  size : Nat
  bytes : Nat
  zero : List V
  agg : Bool
  /-- == upon it is the sameness of its cells. -/
  eqf : Bool
  k : TK
def TI.zeroV (t : TI) : V := match t.agg, t.zero with
  | true, l => .agg l
  | false, v :: _ => v
  | false, [] => uV

structure Dfr where
  fn : V
  args : List V

structure ALoop where
  st : Bool                    -- ready, else busy or done
  over : Bool                  -- done
  pend : Option Code
  fn : FuncId
  n : Nat
  env : Tr V
  params : List Tmp
  assign : Code
  body : Code
  dfs : Nat

inductive AO where
  | cells (cs : List V) (e : TypeId) (rw : Bool)
  | map (es : List (V × V × Nat)) (clk : Nat)
  | siter (s : List Nat) (pos : Nat)
  | miter (m : Option Nat) (since : Nat) (seen : List Nat) (stepped : Nat)
  | loop (l : ALoop)
  | dfd (l : List Dfr)

structure AH where
  nx : Nat
  t : Tr AO
namespace AH
def get (H : AH) (id : Nat) : Option AO := H.t.get id
def set : AH → Nat → AO → AH
  | ⟨n, t⟩, id, o => ⟨n, t.set id (some o)⟩
def del : AH → Nat → AH
  | ⟨n, t⟩, id => ⟨n, t.set id none⟩
def push : AH → AO → AH
  | ⟨n, t⟩, o => ⟨n + 1, t.set n (some o)⟩
end AH

inductive PK where
  | fl
  | ef (rv : List Nat)
/-- What the machine knows of a drawn region: an order, and what is to be looked at anew at its end. -/
structure Plan where
  id : Nat
  l : List (Nat × PK)
  rv : List Nat
inductive Ext where
  | same
  | noZero (e : TypeId)
structure AFn where
  fn : Func
  plans : List Plan
  ext : Option Ext

structure Glob where
  T : Tr TI
  F : Tr AFn
  /-- Calls that are known, by a number made of the arguments: arguments, result. -/
  M : Tr (Tr (List (List V × V)))
  /-- The type u lies at the cell off of a block of the type e. -/
  lies : List (TypeId × Nat × TypeId)
  ng : Nat

/-- What an operation comes to. -/
inductive R1 where
  | val (v : V)
  | new (o : AO) (mk : Nat → V)
  | eff (v : V) (H : AH)
  | call (f : FuncId) (args : List V)
  /-- A call that is known, with its result. -/
  | know (f : FuncId) (args : List V) (r : V)
  | round (id : Nat) (args : List V)
  | dfr (d : Dfr)
  | rec_
  | bad

def R1.ofV : Option V → R1
  | some v => .val v
  | none => .bad
def R1.ofE : Option (V × AH) → R1
  | some (v, H) => .eff v H
  | none => .bad
def R1.ofN : Option (AO × (Nat → V)) → R1
  | some (o, mk) => .new o mk
  | none => .bad

/-! ### Operands -/
mutual
def toV : Value → Option V
  | .bool b => some (.b b)
  | .int k n => some (.i k n)
  | .string s => some (.s (s.data.toList.map UInt8.toNat))
  | .pointer none => some .p0
  | .slice none 0 0 => some .s0
  | .map none => some .m0
  | .nilFunc => some .f0
  | .nilIface => some .i0
  | .agg ⟨l⟩ => (toVs l).map .agg
  | .tuple ⟨l⟩ => (toVs l).map .tup
  | _ => none
def toVs : List Value → Option (List V)
  | [] => some []
  | v :: l => match toV v, toVs l with
    | some x, some r => some (x :: r)
    | _, _ => none
end

def ev (G : Glob) (env : Tr V) : Operand → Option V
  | .tmp t => env.get t
  | .const v => toV v
  | .global g => if g < G.ng then some (.p g 0) else none
  | .func f => some (.f f [] [])

/-! ### Integers and strings -/
def wr (k : IntKind) (n : Int) : Int := k.wrap n
def aBin (op : BinOp) (k : IntKind) (x y : Int) : Option V :=
  match op with
  | .add => some (.i k (wr k (x + y)))
  | .sub => some (.i k (wr k (x - y)))
  | .mul => some (.i k (wr k (x * y)))
  | .quo => match decide (y = 0) with
    | true => none
    | false => some (.i k (wr k (x.tdiv y)))
  | .rem => match decide (y = 0) with
    | true => none
    | false => some (.i k (x.tmod y))
  | .eql => some (.b (decide (x = y)))
  | .neq => some (.b (!decide (x = y)))
  | .lss => some (.b (decide (x < y)))
  | .leq => some (.b (decide (x ≤ y)))
  | .gtr => some (.b (decide (y < x)))
  | .geq => some (.b (decide (y ≤ x)))
  | .and => some (.i k (wr k (Int.ofNat ((BitVec.ofInt k.bits x).toNat &&& (BitVec.ofInt k.bits y).toNat))))
  | .or => some (.i k (wr k (Int.ofNat ((BitVec.ofInt k.bits x).toNat ||| (BitVec.ofInt k.bits y).toNat))))
  | .xor => some (.i k (wr k (Int.ofNat ((BitVec.ofInt k.bits x).toNat ^^^ (BitVec.ofInt k.bits y).toNat))))
  | _ => none
def aShift (op : BinOp) (k : IntKind) (x y : Int) : Option V :=
  match decide (y < 0) with
  | true => none
  | false => match op with
    | .shl => some (.i k (wr k (x * 2 ^ (min y.toNat k.bits))))
    | .shr => some (.i k (x.fdiv (2 ^ (min y.toNat k.bits))))
    | _ => none
def sEq : List Nat → List Nat → Bool
  | [], [] => true
  | a :: x, b :: y => match Nat.beq a b with
    | true => sEq x y
    | false => false
  | _, _ => false
def bLess : List Nat → List Nat → Bool
  | _, [] => false
  | [], _ :: _ => true
  | a :: x, b :: y => decide (a < b) || (Nat.beq a b && bLess x y)
def aStr (op : BinOp) (x y : List Nat) : Option V :=
  match op with
  | .add => match decide (x.length + y.length < 2 ^ 40) with
    | true => some (.s (x ++ y))
    | false => none
  | .eql => some (.b (sEq x y))
  | .neq => some (.b (!sEq x y))
  | .lss => some (.b (bLess x y))
  | .leq => some (.b (bLess x y || sEq x y))
  | .gtr => some (.b (!(bLess x y || sEq x y)))
  | .geq => some (.b (!bLess x y))
  | _ => none

/-- Equality of plain cells: none where one is no plain cell. -/
def sameCell : V → V → Option Bool
  | .b x, .b y => some (x == y)
  | .i j x, .i k y => match decide (j = k) with
    | true => some (decide (x = y))
    | false => none
  | .s x, .s y => some (sEq x y)
  | _, _ => none
def sameCells : List V → List V → Option Bool
  | [], [] => some true
  | x :: xs, y :: ys => match sameCell x y, sameCells xs ys with
    | some a, some b => some (a && b)
    | _, _ => none
  | _, _ => none

/-- Cells of the kinds that the first have: booleans, numbers, strings. -/
def kindL : List V → List V → Bool
  | [], l => match l with
    | [] => true
    | _ => false
  | z :: zs, l => match l with
    | [] => false
    | x :: xs => match z, x with
      | .b _, .b _ => kindL zs xs
      | .i _ _, .i _ _ => kindL zs xs
      | .s _, .s _ => kindL zs xs
      | _, _ => false
def isNilC : Operand → Bool
  | .const .nilIface => true
  | _ => false

def szNZ (G : Glob) (e : TypeId) : Bool := match G.T.get e with
  | some ti => !Nat.beq ti.size 0
  | none => false
def aEq (G : Glob) (ti : TI) (cst : Bool) (x y : V) : Option Bool :=
  match ti.k with
  | .bool => match x, y with
    | .b x, .b y => some (x == y)
    | _, _ => none
  | .ptr e => match x, y with
    | .p0, .p0 => some true
    | .p0, .p _ _ => some false
    | .p _ _, .p0 => some false
    | .p i o, .p j q => match decide (i = j) && szNZ G e with
      | true => some (decide (o = q))
      | false => none
    | _, _ => none
  | .slice _ _ => match x, y with
    | .s0, .s0 => some true
    | .s0, .sl .. => some false
    | .sl .., .s0 => some false
    | .s0, .S .. => some false
    | .S .., .s0 => some false
    | .s0, .se => some false
    | .se, .s0 => some false
    | _, _ => none
  | .map _ _ => match x, y with
    | .m0, .m0 => some true
    | .m0, .m _ => some false
    | .m _, .m0 => some false
    | _, _ => none
  | .func => match x, y with
    | .f0, .f0 => some true
    | .f0, .f .. => some false
    | .f .., .f0 => some false
    | _, _ => none
  | .iface => match x, y with
    | .i0, .i0 => match cst with
      | true => some true
      | false => none
    | .i0, .ifc .. => some false
    | .ifc .., .i0 => some false
    | _, _ => none
  | _ => match x, y with
    | .agg xs, .agg ys => match ti.eqf && kindL ti.zero xs with
      | true => sameCells xs ys
      | false => none
    | _, _ => none
def armBin (G : Glob) (op : BinOp) (t : TypeId) (cst : Bool) (x y : V) : Option V :=
  match x, y with
  | .i k a, .i k' c => match op with
    | .shl => aShift op k a c
    | .shr => aShift op k a c
    | _ => match decide (k = k') with
      | true => aBin op k a c
      | false => none
  | .s a, .s c => aStr op a c
  | _, _ => match op, G.T.get t with
    | .eql, some ti => match aEq G ti cst x y with
      | some r => some (.b r)
      | none => none
    | .neq, some ti => match aEq G ti cst x y with
      | some r => some (.b (!r))
      | none => none
    | _, _ => none
def armUn (op : UnOp) (x : V) : Option V :=
  match op, x with
  | .not, .b r => some (.b (!r))
  | .neg, .i k n => some (.i k (wr k (0 - n)))
  | .xor, .i k n => aBin .xor k (if k.signed then -1 else k.max) n
  | _, _ => none

/-! ### Cells -/
/-- n elements from off on. -/
def takeN : Nat → List V → Option (List V)
  | 0, _ => some []
  | _ + 1, [] => none
  | n + 1, v :: l => match takeN n l with
    | some r => some (v :: r)
    | none => none
def cut : List V → Nat → Nat → Option (List V)
  | l, 0, n => takeN n l
  | _ :: l, off + 1, n => cut l off n
  | [], _ + 1, n => match n with
    | 0 => some []
    | _ + 1 => none
def at1 : List V → Nat → Option V
  | [], _ => none
  | v :: _, 0 => some v
  | _ :: l, n + 1 => at1 l n
/-- r laid over l from off on. -/
def over : List V → List V → Option (List V)
  | [], l => some l
  | _ :: _, [] => none
  | v :: r, _ :: l => match over r l with
    | some x => some (v :: x)
    | none => none
def splice : List V → Nat → List V → Option (List V)
  | l, 0, r => over r l
  | v :: l, off + 1, r => match splice l off r with
    | some x => some (v :: x)
    | none => none
  | [], _ + 1, _ => none
def allCell : List V → Bool
  | [] => true
  | v :: l => v.isCell && allCell l

def partOf (ti : TI) (cs : List V) (off : Nat) : Option V := match ti.agg with
  | true => match cut cs off ti.size with
    | some l => some (.agg l)
    | none => none
  | false => at1 cs off
def armLoad (G : Glob) (H : AH) (t : TypeId) : V → Option V
  | .p id off => match H.get id, G.T.get t with
    | some (.cells cs _ _), some ti => partOf ti cs off
    | _, _ => none
  | .dp _ cs off => match G.T.get t with
    | some ti => partOf ti cs off
    | none => none
  | _ => none
def armStore (G : Glob) (H : AH) (t : TypeId) (a v : V) : Option (V × AH) :=
  match a with
  | .p id off => match H.get id, G.T.get t with
    | some (.cells cs e true), some ti =>
      match Nat.beq v.cells.length ti.size && allCell v.cells with
      | true => match splice cs off v.cells with
        | some cs' => some (uV, H.set id (.cells cs' e true))
        | none => none
      | false => none
    | _, _ => none
  | _ => none
def nthF : List (Nat × Nat × TypeId) → Nat → Option (Nat × Nat × TypeId)
  | [], _ => none
  | x :: _, 0 => some x
  | _ :: l, n + 1 => nthF l n
def armFieldAddr (G : Glob) (t : TypeId) (f : Nat) (x : V) : Option V :=
  match G.T.get t with
  | some ti => match ti.k with
    | .struct fs => match nthF fs f with
      | some (o, sz, _) => match Nat.beq sz 0 with
        | true => none
        | false => match x with
          | .p id off => some (.p id (off + o))
          | .dp old cs off => some (.dp old cs (off + o))
          | _ => none
      | none => none
    | _ => none
  | _ => none
def inB (n : Int) (len : Nat) : Bool := decide (0 ≤ n) && decide (n < len)
def armIndexAddr (G : Glob) (t : TypeId) (x ix : V) : Option V :=
  match G.T.get t, ix with
  | some ti, .i _ n => match ti.k, x with
    | .slice _ sz, .sl id off len _ _ => match inB n len with
      | true => some (.p id (off + n.toNat * sz))
      | false => none
    | .slice _ sz, .S old cs len => match inB n len with
      | true => some (.dp old cs (n.toNat * sz))
      | false => none
    | .array len _ sz, .p id off => match inB n len with
      | true => some (.p id (off + n.toNat * sz))
      | false => none
    | .array len _ sz, .dp old cs off => match inB n len with
      | true => some (.dp old cs (off + n.toNat * sz))
      | false => none
    | _, _ => none
  | _, _ => none
def byteAt : List Nat → Nat → Option Nat
  | [], _ => none
  | c :: _, 0 => some c
  | _ :: l, n + 1 => byteAt l n
def armIndex (G : Glob) (t : TypeId) (x ix : V) : Option V :=
  match G.T.get t, ix with
  | some ti, .i _ n => match ti.k, x with
    | .str, .s l => match decide (0 ≤ n) with
      | true => match byteAt l n.toNat with
        | some c => some (.i .u8 (Int.ofNat c))
        | none => none
      | false => none
    | .array len e sz, .agg cs => match inB n len, G.T.get e with
      | true, some te => match Nat.beq te.size sz with
        | true => partOf te cs (n.toNat * sz)
        | false => none
      | _, _ => none
    | _, _ => none
  | _, _ => none
def armField (G : Glob) (t : TypeId) (f : Nat) (x : V) : Option V :=
  match G.T.get t, x with
  | some ti, .agg cs => match ti.k with
    | .struct fs => match nthF fs f with
      | some (o, _, ty) => match G.T.get ty with
        | some te => partOf te cs o
        | none => none
      | none => none
    | _ => none
  | _, _ => none

/-- The parts of a struct, an array or a slice laid into cells. -/
def fillS (fs : List (Nat × Nat × TypeId)) (cs : List V) : List (Nat × V) → Option (List V)
  | [] => some cs
  | (i, v) :: r => match nthF fs i with
    | some (o, sz, _) => match Nat.beq v.cells.length sz with
      | true => match splice cs o v.cells with
        | some cs' => fillS fs cs' r
        | none => none
      | false => none
    | none => none
def fillA (sz : Nat) (cs : List V) : List (Nat × V) → Option (List V)
  | [] => some cs
  | (i, v) :: r => match Nat.beq v.cells.length sz with
    | true => match splice cs (i * sz) v.cells with
      | some cs' => fillA sz cs' r
      | none => none
    | false => none
def armBuild (G : Glob) (t : TypeId) (ps : List (Nat × V)) : Option V :=
  match G.T.get t with
  | some ti => match ti.agg, ti.k with
    | true, .struct fs => match fillS fs ti.zero ps with
      | some l => some (.agg l)
      | none => none
    | true, .array _ _ sz => match fillA sz ti.zero ps with
      | some l => some (.agg l)
      | none => none
    | _, _ => none
  | none => none
def reps (z : List V) : Nat → List V
  | 0 => []
  | n + 1 => z ++ reps z n
def armBuildSlice (G : Glob) (t : TypeId) (len : Nat) (ps : List (Nat × V)) : Option (AO × (Nat → V)) :=
  match G.T.get t with
  | some ti => match ti.k with
    | .slice e sz => match G.T.get e with
      | some te =>
        match decide (len * sz ≤ 2 ^ 20) && (Nat.beq te.size sz && Nat.beq te.zero.length sz) with
        | true => match fillA sz (reps te.zero len) ps with
          | some cs => some (.cells cs e true, fun id => .sl id 0 len len true)
          | none => none
        | false => none
      | none => none
    | _ => none
  | none => none
def armMakeSlice (G : Glob) (t : TypeId) (l c : V) : Option (AO × (Nat → V)) :=
  match G.T.get t, l, c with
  | some ti, .i .i64 n, .i .i64 m => match ti.k with
    | .slice e sz => match G.T.get e with
      | some te =>
        match (decide (0 ≤ n) && decide (n ≤ m) && decide (m ≤ 2 ^ 20)) && (decide (te.bytes ≤ 2 ^ 20) && Nat.beq te.size sz && Nat.beq te.zero.length sz) with
        | true => some (.cells (reps te.zero m.toNat) e true, fun id => .sl id 0 n.toNat m.toNat true)
        | false => none
      | none => none
    | _ => none
  | _, _, _ => none

def bound (dflt hi : Nat) : Option V → Option Nat
  | none => some dflt
  | some (.i _ n) => match decide (0 ≤ n) && decide (n ≤ hi) with
    | true => some n.toNat
    | false => none
  | _ => none
def bounds (len cap : Nat) (lo hi : Option V) : Option (Nat × Nat) := match bound len cap hi with
  | some h => match bound 0 h lo with
    | some k => some (k, h)
    | none => none
  | none => none
def subS : List Nat → Nat → Nat → List Nat
  | l, 0, n => l.take n
  | _ :: l, k + 1, n => subS l k n
  | [], _ + 1, _ => []
def dropV : List V → Nat → List V
  | l, 0 => l
  | _ :: l, k + 1 => dropV l k
  | [], _ + 1 => []
/-- x[lo:hi] -/
def armSlice (G : Glob) (t : TypeId) (x : V) (lo hi : Option V) : Option V :=
  match G.T.get t with
  | some ti => match ti.k, x with
    | .str, .s l => match bounds l.length l.length lo hi with
      | some (k, h) => some (.s (subS l k (h - k)))
      | none => none
    | .slice _ sz, .sl id off len cap true => match bounds len cap lo hi with
      | some (k, h) => match decide (k < cap) with
        | true => some (.sl id (off + k * sz) (h - k) (cap - k) true)
        | false => match Nat.beq h k with
          | true => some .se
          | false => none
      | none => none
    | .slice _ sz, .sl id off len cap false => match bounds len len lo hi with
      | some (k, h) => match decide (k < len) with
        | true => some (.sl id (off + k * sz) (h - k) (cap + k) false)
        | false => match Nat.beq h k with
          | true => some .se
          | false => none
      | none => none
    | .slice _ sz, .S old cs len => match bounds len len lo hi with
      | some (k, h) => match decide (k < len) with
        | true => some (.S old (dropV cs (k * sz)) (h - k))
        | false => match Nat.beq h k with
          | true => some .se
          | false => none
      | none => none
    | .slice _ _, .se => match bounds 0 0 lo hi with
      | some _ => some .se
      | none => none
    | .slice _ _, .s0 => match bounds 0 0 lo hi with
      | some _ => some .s0
      | none => none
    | .array n _ sz, .p id off => match bounds n n lo hi with
      | some (k, h) => match decide (k < n) with
        | true => some (.sl id (off + k * sz) (h - k) (n - k) true)
        | false => none
      | none => none
    | .array n _ sz, .dp old cs off => match bounds n n lo hi with
      | some (k, h) => match decide (k < n) with
        | true => some (.S old (dropV cs (off + k * sz)) (h - k))
        | false => none
      | none => none
    | _, _ => none
  | none => none

/-! ### Maps -/
def keyIs (k e : V) : Option Bool := match k, e with
  | .agg xs, .agg ys => sameCells xs ys
  | x, y => sameCell x y
/-- Keys that are plain. -/
def keyOk (G : Glob) (kt : TypeId) (k : V) : Bool := match G.T.get kt with
  | some ti => match ti.k, k with
    | .bool, .b _ => true
    | .str, .s _ => true
    | .int _, .i _ _ => true
    | .struct _, .agg l => ti.eqf && kindL ti.zero l
    | .array _ _ _, .agg l => ti.eqf && kindL ti.zero l
    | _, _ => false
  | none => false
def findK (k : V) : List (V × V × Nat) → Nat → Option (Option (Nat × V × V × Nat))
  | [], _ => some none
  | (e, v, n) :: es, i => match keyIs k e with
    | some true => some (some (i, e, v, n))
    | some false => findK k es (i + 1)
    | none => none
def setNth (x : V × V × Nat) : List (V × V × Nat) → Nat → List (V × V × Nat)
  | [], _ => []
  | _ :: l, 0 => x :: l
  | y :: l, n + 1 => y :: setNth x l n
def mapAt (H : AH) : V → Option (List (V × V × Nat) × Nat × Nat)
  | .m id => match H.get id with
    | some (.map es c) => some (es, c, id)
    | _ => none
  | _ => none
def okTup (ok : Bool) (v : V) (h : Bool) : V := match ok with
  | true => .tup [v, .b h]
  | false => v
def armLookup (G : Glob) (H : AH) (t : TypeId) (x k : V) (ok : Bool) : Option V :=
  match G.T.get t with
  | some tm => match tm.k with
    | .map kt et => match G.T.get et, keyOk G kt k with
      | some ti, true =>
        match x with
        | .m0 => some (okTup ok ti.zeroV false)
        | x => match mapAt H x with
          | some (es, _, _) => match findK k es 0 with
            | some (some (_, _, v, _)) => some (okTup ok v true)
            | some none => some (okTup ok ti.zeroV false)
            | none => none
          | none => none
      | _, _ => none
    | _ => none
  | none => none
def armUpdate (G : Glob) (H : AH) (t : TypeId) (x k v : V) : Option (V × AH) :=
  match G.T.get t with
  | some tm => match tm.k with
    | .map kt _ => match mapAt H x, keyOk G kt k with
      | some (es, c, id), true => match findK k es 0 with
        | some (some (i, _, _, born)) => some (uV, H.set id (.map (setNth (k, v, born) es i) c))
        | some none => some (uV, H.set id (.map (es ++ [(k, v, c)]) (c + 1)))
        | none => none
      | _, _ => none
    | _ => none
  | none => none
def armMapEntry (G : Glob) (H : AH) (t : TypeId) (x k : V) : Option (V × AH) :=
  match G.T.get t with
  | some tm => match tm.k with
    | .map kt et => match G.T.get et, mapAt H x, keyOk G kt k with
      | some ti, some (es, c, id), true => match findK k es 0 with
        | some (some (i, _, v, born)) => some (.tup [v, .i .i64 (Int.ofNat born)], H.set id (.map (setNth (k, v, born) es i) c))
        | some none => some (.tup [ti.zeroV, .i .i64 (Int.ofNat c)], H.set id (.map (es ++ [(k, ti.zeroV, c)]) (c + 1)))
        | none => none
      | _, _, _ => none
    | _ => none
  | none => none
def bornAt (b : Int) : List (V × V × Nat) → Nat → Option (Nat × V × Nat)
  | [], _ => none
  | (k, _, n) :: es, i => match decide (Int.ofNat n = b) with
    | true => some (i, k, n)
    | false => bornAt b es (i + 1)
def armEntryStore (H : AH) (x s v : V) : Option (V × AH) :=
  match mapAt H x, s with
  | some (es, c, id), .i _ b => match bornAt b es 0 with
    | some (i, k, n) => some (uV, H.set id (.map (setNth (k, v, n) es i) c))
    | none => none
  | _, _ => none

/-! ### Walks over strings and maps -/
def armRange (G : Glob) (H : AH) (t : TypeId) (x : V) : Option (AO × (Nat → V)) :=
  match G.T.get t with
  | some ti => match ti.k, x with
    | .str, .s l => some (.siter l 0, fun id => .p id 0)
    | .map _ _, .m0 => some (.miter none 0 [] 0, fun id => .p id 0)
    | .map _ _, .m id => match H.get id with
      | some (.map _ c) => some (.miter (some id) c [] c, fun id => .p id 0)
      | _ => none
    | _, _ => none
  | none => none
def memN (n : Nat) : List Nat → Bool
  | [] => false
  | x :: l => Nat.beq x n || memN n l
def left (seen : List Nat) : List (V × V × Nat) → List (V × V × Nat)
  | [] => []
  | e :: es => match memN e.2.2 seen with
    | true => left seen es
    | false => e :: left seen es
def allBelow (c : Nat) : List (V × V × Nat) → Bool
  | [] => true
  | e :: es => decide (e.2.2 < c) && allBelow c es
def armNext (H : AH) (it : V) (str : Bool) : Option (V × AH) :=
  match it with
  | .p id 0 => match H.get id, str with
    | some (.siter l pos), true =>
      match byteAt l pos with
      | some c => match decide (c < 128) with
        | true => some (.tup [.b true, .i .i64 (Int.ofNat pos), .i .i32 (Int.ofNat c)], H.set id (.siter l (pos + 1)))
        | false => none
      | none => some (.tup [.b false], H)
    | some (.miter none _ _ _), false => some (.tup [.b false], H)
    | some (.miter (some m) since seen last), false => match H.get m with
      | some (.map es clk) =>
        match Nat.beq clk since && (Nat.beq last clk && allBelow clk es) with
        | true => match left seen es with
          | [] => some (.tup [.b false], H)
          | [(k, v, n)] => some (.tup [.b true, k, v], H.set id (.miter (some m) since (seen ++ [n]) clk))
          | _ => none
        | false => none
      | _ => none
    | _, _ => none
  | _ => none
def lastN : List Nat → Option Nat
  | [] => none
  | [x] => some x
  | _ :: y :: l => lastN (y :: l)
def findB (n : Nat) : List (V × V × Nat) → Option (V × V)
  | [] => none
  | e :: es => match Nat.beq e.2.2 n with
    | true => some (e.1, e.2.1)
    | false => findB n es
def armEntry (H : AH) (it : V) : Option V :=
  match it with
  | .p id 0 => match H.get id with
    | some (.miter (some m) _ seen stepped) => match lastN seen, H.get m with
      | some st, some (.map es clk) => match Nat.beq clk stepped with
        | true => match findB st es with
          | some (k, v) => some (.tup [k, v])
          | none => none
        | false => none
      | _, _ => none
    | _ => none
  | _ => none

/-! ### Interfaces, tuples, conversions -/
def armAssert (G : Glob) (t : TypeId) (ok : Bool) (x : V) : Option V :=
  match G.T.get t with
  | some ti => match ti.k with
    | .iface => none
    | _ => match x, ok with
      | .ifc u v, true => match decide (u = t) with
        | true => some (.tup [v, .b true])
        | false => some (.tup [ti.zeroV, .b false])
      | .ifc u v, false => match decide (u = t) with
        | true => some v
        | false => none
      | .i0, true => some (.tup [ti.zeroV, .b false])
      | _, _ => none
  | none => none
def armExtract (n : Nat) : V → Option V
  | .tup l => at1 l n
  | _ => none
def armIface (G : Glob) (t : TypeId) (x : V) : Option V :=
  match G.T.get t with
  | some ti => match ti.k with
    | .iface => none
    | _ => some (.ifc t x)
  | none => none
def bytesOf : List V → Option (List Nat)
  | [] => some []
  | v :: l => match v with
    | .i .u8 n => match bytesOf l, decide (0 ≤ n) && decide (n < 256) with
      | some r, true => some (n.toNat :: r)
      | _, _ => none
    | _ => none
def liesA (x : TypeId × Nat × TypeId) : List (TypeId × Nat × TypeId) → Bool
  | [] => false
  | (a, b, c) :: l => (Nat.beq a x.1 && (Nat.beq b x.2.1 && Nat.beq c x.2.2)) || liesA x l
/-- The cells of a slice, elements of one cell each. -/
def cells1 (H : AH) : V → Option (List V)
  | .s0 => some []
  | .se => some []
  | .sl id off len _ _ => match H.get id with
    | some (.cells cs _ _) => cut cs off len
    | _ => none
  | .S _ cs len => takeN len cs
  | _ => none
def armConvert (G : Glob) (H : AH) (src dst : TypeId) (x : V) : Option V :=
  match G.T.get src, G.T.get dst with
  | some a, some b => match a.k, b.k, x with
    | .int _, .int k, .i _ n => some (.i k (wr k n))
    | .str, .str, .s l => some (.s l)
    | .slice e 1, .str, x => match G.T.get e with
      | some te => match te.k with
        | .int .u8 => match cells1 H x with
          | some l => match bytesOf l with
            | some r => some (.s r)
            | none => none
          | none => none
        | _ => none
      | none => none
    | .ptr t, .uptr, .p id o => match H.get id, G.T.get t with
      | some (.cells cs _ _), some ti => match decide (o < cs.length) && !Nat.beq ti.size 0 with
        | true => some (.p id o)
        | false => none
      | _, _ => none
    | .uptr, .ptr u, .p id o => match H.get id, G.T.get u with
      | some (.cells cs e _), some ti => match G.T.get e with
        | some te => match (!Nat.beq te.size 0 && decide (o / te.size * te.size + te.size ≤ cs.length)) && (!Nat.beq ti.size 0 && liesA (e, o, u) G.lies) with
          | true => some (.p id o)
          | false => none
        | none => none
      | _, _ => none
    | _, _, _ => none
  | _, _ => none
def byteV : List Nat → List V
  | [] => []
  | c :: l => .i .u8 (Int.ofNat c) :: byteV l
/-- A string made a row of bytes. -/
def convBytes (G : Glob) (src dst : TypeId) (x : V) : Option (AO × (Nat → V)) :=
  match G.T.get src, G.T.get dst, x with
  | some _, some b, .s l => match b.k with
    | .slice e 1 => match G.T.get e with
      | some te => match te.k with
        | .int .u8 => some (.cells (byteV l) e false, fun id => .sl id 0 l.length 0 false)
        | _ => none
      | none => none
    | _ => none
  | _, _, _ => none
/-! ### Built-ins -/
def lenV : V → Option Nat
  | .s l => some l.length
  | .s0 => some 0
  | .se => some 0
  | .sl _ _ n _ _ => some n
  | .S _ _ n => some n
  | _ => none
def armLen (G : Glob) (H : AH) (t : TypeId) (x : V) : Option V :=
  match G.T.get t with
  | some ti => match ti.k with
    | .str => match x with
      | .s l => some (.i .i64 (Int.ofNat l.length))
      | _ => none
    | .array n _ _ => some (.i .i64 (Int.ofNat n))
    | .slice _ _ => match x, lenV x with
      | .s _, _ => none
      | _, some n => some (.i .i64 (Int.ofNat n))
      | _, none => none
    | .map _ _ => match x with
      | .m0 => some (.i .i64 0)
      | x => match mapAt H x with
        | some (es, _, _) => some (.i .i64 (Int.ofNat es.length))
        | none => none
    | _ => none
  | none => none
def armCap (G : Glob) (t : TypeId) (x : V) : Option V :=
  match G.T.get t with
  | some ti => match ti.k, x with
    | .slice _ _, .sl _ _ _ c true => some (.i .i64 (Int.ofNat c))
    | .slice _ _, .s0 => some (.i .i64 0)
    | _, _ => none
  | none => none
def minmax (mx : Bool) : IntKind → Int → List V → Option V
  | k, x, [] => some (.i k x)
  | k, x, v :: l => match v with
    | .i _ y => match (match mx with | true => decide (x < y) | false => decide (y < x)) with
      | true => minmax mx k y l
      | false => minmax mx k x l
    | _ => none

/-- The first n elements of a slice or a string, as cells. -/
def firstN (H : AH) (sz n : Nat) : V → Option (List V)
  | .s l => some (byteV (l.take n))
  | .s0 => some []
  | .se => match Nat.beq n 0 with
    | true => some []
    | false => none
  | .sl id off _ _ _ => match H.get id with
    | some (.cells cs _ _) => cut cs off (n * sz)
    | _ => none
  | .S _ cs _ => takeN (n * sz) cs
  | _ => none
/-- An append: s, what comes behind it, n elements of it. -/
def appendTo (H : AH) (sz : Nat) (e : TypeId) (s : V) (new : List V) (n : Nat) : Option (V × AH) :=
  match s with
  | .s0 => some (.sl H.nx 0 n 0 false, H.push (.cells new e true))
  | .sl id off len cap fix => match H.get id, decide (len ≤ 2 ^ 20) with
    | some (.cells cs e' rw), true => match fix with
      | true => match decide (len + n ≤ cap) with
        | true => match rw && allCell new with
          | true => match splice cs (off + len * sz) new with
            | some cs' => some (.sl id off (len + n) cap true, H.set id (.cells cs' e' true))
            | none => none
          | false => none
        | false => match cut cs off (len * sz) with
          | some old => some (.sl H.nx 0 (len + n) 0 false, H.push (.cells (old ++ new) e true))
          | none => none
      | false => match (rw && allCell new) && (Nat.beq off 0 && (Nat.beq cap 0 && (Nat.beq cs.length (len * sz) && Nat.beq e' e))) with
        | true => some (.sl H.nx 0 (len + n) 0 false, (H.del id).push (.cells (cs ++ new) e true))
        | false => none
    | _, _ => none
  | _ => none
def armAppend (G : Glob) (H : AH) (ts : List TypeId) (s x : V) : Option (V × AH) :=
  match ts with
  | [t, t2] => match G.T.get t, G.T.get t2 with
    | some tk, some ti2 => match tk.k, ti2.k with
      | .slice _ _, .int _ => none
      | .slice e sz, _ => match G.T.get e, lenV x with
        | some te, some n => match n with
          | 0 => match s with
            | .s0 => some (.s0, H)
            | .se => some (.se, H)
            | .sl id off len cap fix => some (.sl id off len cap fix, H)
            | .S old cs len => some (.S old cs len, H)
            | _ => none
          | _ + 1 => match firstN H sz n x with
            | some new =>
              match (Nat.beq te.size sz && (Nat.beq te.zero.length sz && Nat.beq new.length (n * sz))) && (decide (0 < te.bytes) && (decide (te.bytes ≤ 2 ^ 16) && decide (n ≤ 2 ^ 20))) with
              | true => appendTo H sz e s new n
              | false => none
            | none => none
        | _, _ => none
      | _, _ => none
    | _, _ => none
  | _ => none
def armCopy (G : Glob) (H : AH) (t : TypeId) (d s : V) : Option (V × AH) :=
  match G.T.get t, lenV d, lenV s with
  | some ti, some dl, some sl' => match ti.k with
    | .slice _ sz =>
      let n := Nat.min sl' dl
      match firstN H sz n s with
      | some new => match d with
        | .s0 => some (.i .i64 (Int.ofNat n), H)
        | .se => some (.i .i64 (Int.ofNat n), H)
        | .sl id off _ _ _ => match H.get id with
          | some (.cells cs e true) => match allCell new with
            | true => match splice cs off new with
              | some cs' => some (.i .i64 (Int.ofNat n), H.set id (.cells cs' e true))
              | none => none
            | false => none
          | _ => none
        | _ => none
      | none => none
    | _ => none
  | _, _, _ => none
def armUString (G : Glob) (H : AH) (ts : List TypeId) (x n : V) : Option (V × AH) :=
  match x, n with
  | .p0, .i _ n => match decide (n = 0) with
    | true => some (.s [], H)
    | false => none
  | .p id off, .i _ n => match H.get id, ts with
    | some (.cells cs e true), t :: _ => match G.T.get t with
      | some tp => match tp.k with
        | .ptr u => match decide (0 < n) && (decide (n ≤ 2 ^ 20) && (Nat.beq off 0 && Nat.beq e u)) , G.T.get u with
          | true, some tu => match tu.k, cut cs off n.toNat, Nat.beq tu.size 1 with
            | .int .u8, some l, true => match bytesOf l with
              | some bs => some (.s bs, H.set id (.cells cs e false))
              | none => none
            | _, _, _ => none
          | _, _ => none
        | _ => none
      | none => none
    | _, _ => none
  | _, _ => none
def armUData (H : AH) (x : V) : Option V :=
  match x with
  | .s0 => some .p0
  | .sl id off len cap fix => match H.get id with
    | some (.cells _ _ _) => match (match fix with | true => decide (0 < cap) | false => decide (0 < len)) with
      | true => some (.p id off)
      | false => none
    | _ => none
  | _ => none

def armBuiltin (G : Glob) (H : AH) (b : Builtin) (ts : List TypeId) (args : List V) : R1 :=
  match b, args with
  | .len, [x] => match ts with
    | t :: _ => .ofV (armLen G H t x)
    | [] => .bad
  | .cap, [x] => match ts with
    | t :: _ => .ofV (armCap G t x)
    | [] => .bad
  | .append, [s, x] => .ofE (armAppend G H ts s x)
  | .copy, [d, s] => match ts with
    | t :: _ => .ofE (armCopy G H t d s)
    | [] => .bad
  | .min, .i k x :: l => .ofV (minmax false k x l)
  | .max, .i k x :: l => .ofV (minmax true k x l)
  | .unsafeSliceData, [x] => .ofV (armUData H x)
  | .unsafeString, [x, n] => match ts with
    | _ :: _ => .ofE (armUString G H ts x n)
    | [] => .bad
  | .recover, [] => .rec_
  | _, _ => .bad

/-! ### Calls that are known -/
mutual
/-- The value v is what k says: k holds no id (new: nothing of it is older than the call that is run). -/
def mt (H : AH) (ng : Nat) (new : Bool) : V → V → Bool
  | .b x, v => match v with
    | .b z => x == z
    | _ => false
  | .i j x, v => match v with
    | .i k z => decide (j = k) && decide (x = z)
    | _ => false
  | .s x, v => match v with
    | .s z => sEq x z
    | _ => false
  | .p0, v => match v with
    | .p0 => true
    | _ => false
  | .s0, v => match v with
    | .s0 => true
    | _ => false
  | .se, v => match v with
    | .se => true
    | _ => false
  | .S old ks n, v => match v with
    | .S old' cs n' => Nat.beq n n' && ((old || (new && !old')) && mts H ng new ks cs)
    | .sl id off n' _ _ => Nat.beq n n' && ((old || (new && decide (ng ≤ id))) && match H.get id with
      | some (.cells cs _ _) => mts H ng new ks (dropV cs off)
      | _ => false)
    | _ => false
  | .m0, v => match v with
    | .m0 => true
    | _ => false
  | .f g a b, v => match v with
    | .f g' a' b' => Nat.beq g g' && (Nat.beq a.length a'.length && (Nat.beq b.length b'.length && (mts H ng new a a' && mts H ng new b b')))
    | _ => false
  | .f0, v => match v with
    | .f0 => true
    | _ => false
  | .ifc t x, v => match v with
    | .ifc u z => Nat.beq t u && mt H ng new x z
    | _ => false
  | .i0, v => match v with
    | .i0 => true
    | _ => false
  | .agg l, v => match v with
    | .agg l' => Nat.beq l.length l'.length && mts H ng new l l'
    | _ => false
  | .tup l, v => match v with
    | .tup l' => Nat.beq l.length l'.length && mts H ng new l l'
    | _ => false
  | .p _ _, _ => false
  | .dp _ _ _, _ => false
  | .sl _ _ _ _ _, _ => false
  | .m _, _ => false
  | .y _, _ => false
/-- The first values are as they are said. -/
def mts (H : AH) (ng : Nat) (new : Bool) : List V → List V → Bool
  | [], _ => true
  | k :: ks, l => match l with
    | v :: vs => mt H ng new k v && mts H ng new ks vs
    | [] => false
end
def known (H : AH) (ng : Nat) (args : List V) : List (List V × V) → Option V
  | [] => none
  | (ks, r) :: l => match Nat.beq ks.length args.length && mts H ng false ks args with
    | true => some r
    | false => known H ng args l

/-! ### A number made of arguments -/
def mixN (h n : Nat) : Nat := (h * 31 + n) % 65521
def hS : Nat → List Nat → Nat → Nat
  | 0, _, h => h
  | k + 1, l, h => match l with
    | [] => h
    | c :: l => hS k l (mixN h c)
def upTo : Nat → List V → List V
  | 0, _ => []
  | k + 1, l => match l with
    | [] => []
    | v :: l => v :: upTo k l
def hW (T : Tr TI) (H : AH) : Nat → List V → Nat → Nat
  | 0, _, h => h
  | k + 1, l, h => match l with
    | [] => h
    | v :: l => match v with
      | .i _ n => hW T H k l (mixN h n.natAbs)
      | .b x => hW T H k l (mixN h (match x with | true => 1 | false => 2))
      | .s s => hW T H k l (hS 80 s (mixN h 3))
      | .agg x => hW T H k (x ++ l) h
      | .tup x => hW T H k (x ++ l) h
      | .S _ x n => hW T H k (x ++ l) (mixN h n)
      | .sl id off n _ _ => match H.get id with
        | some (.cells cs e _) => match T.get e with
          | some te => hW T H k (upTo (n * te.size) (dropV cs off) ++ l) (mixN h n)
          | none => hW T H k l (mixN h n)
        | _ => hW T H k l (mixN h n)
      | .ifc t x => hW T H k (x :: l) (mixN h t)
      | .f g a b => hW T H k (a ++ (b ++ l)) (mixN h g)
      | _ => hW T H k l (mixN h 7)
/-! ### Calls -/
def extA (H : AH) (x : Ext) (args : List V) : R1 :=
  match x, args with
  | .same, [v] => .val v
  | .noZero e, [.i .i64 n] => match decide (0 ≤ n) && decide (n ≤ 2 ^ 20) with
    | true => .eff (.sl H.nx 0 n.toNat 0 false) (H.push (.cells [] e true))
    | false => .bad
  | _, _ => .bad
def armCall (G : Glob) (H : AH) (f : V) (args : List V) : R1 :=
  match f with
  | .f g first cap => match G.F.get g with
    | some af => match af.ext with
      | some x => extA H x (first ++ (args ++ cap))
      | none => match G.M.get g with
        | none => .call g (first ++ (args ++ cap))
        | some t => match t.get (hW G.T H 160 (first ++ (args ++ cap)) 7 % 512) with
          | none => .call g (first ++ (args ++ cap))
          | some l => match known H G.ng (first ++ (args ++ cap)) l with
            | some r => .know g (first ++ (args ++ cap)) r
            | none => .call g (first ++ (args ++ cap))
    | none => .bad
  | .y id => .round id args
  | _ => .bad

end Go.Proofs.YtbkipanlicgooaaGreatDoor
namespace Go.Proofs.YtbkipanlicgooaaGreatDoor

abbrev Rho := Operand → Option V

/-! ### One operation -/
def o1 (r : Option V) (k : V → R1) : R1 := match r with
  | some v => k v
  | none => .bad
def ofO (ρ : Rho) : Option Operand → Option (Option V)
  | none => some none
  | some x => match ρ x with
    | some v => some (some v)
    | none => none
def evL (ρ : Rho) : List Operand → Option (List V)
  | [] => some []
  | x :: l => match ρ x, evL ρ l with
    | some v, some r => some (v :: r)
    | _, _ => none
def evP (ρ : Rho) : List (Nat × Operand) → Option (List (Nat × V))
  | [] => some []
  | (i, x) :: l => match ρ x, evP ρ l with
    | some v, some r => some ((i, v) :: r)
    | _, _ => none
def xPick (ρ : Rho) (c a b : Operand) : R1 := match ρ c with
  | some (.b true) => .ofV (ρ a)
  | some (.b false) => .ofV (ρ b)
  | _ => .bad
def xAlloc (G : Glob) (e : TypeId) : R1 := match G.T.get e with
  | some ti => .new (.cells ti.zero e true) (fun id => .p id 0)
  | none => .bad
def xBox (ρ : Rho) (e : TypeId) (x : Operand) : R1 := match ρ x with
  | some v => match allCell v.cells with
    | true => .new (.cells v.cells e true) (fun id => .p id 0)
    | false => .bad
  | none => .bad
def xNil (ρ : Rho) (x : Operand) : R1 := match ρ x with
  | some (.p id o) => .val (.p id o)
  | some (.dp old cs o) => .val (.dp old cs o)
  | _ => .bad
def xFunc (ρ : Rho) (fn : Fn) (a b : Array Operand) : R1 := match fn with
  | .func f => match evL ρ a.toList, evL ρ b.toList with
    | some x, some y => .val (.f f x y)
    | _, _ => .bad
  | _ => .bad
def xCall (G : Glob) (H : AH) (ρ : Rho) (c : Call) : R1 := match evL ρ c.args.toList with
  | some args => match c.callee with
    | .value f => match ρ f with
      | some v => armCall G H v args
      | none => .bad
    | .builtin b => armBuiltin G H b c.argTypes.toList args
    | .invoke _ _ => .bad
  | none => .bad
def xDefer (ρ : Rho) (c : Call) : R1 := match evL ρ c.args.toList with
  | some args => match c.callee with
    | .value f => match ρ f with
      | some (.f g a b) => .dfr ⟨.f g a b, args⟩
      | _ => .bad
    | _ => .bad
  | none => .bad

def xConv (G : Glob) (H : AH) (s d : TypeId) (x : V) : R1 := match convBytes G s d x with
  | some (o, mk) => .eff (mk H.nx) (H.push o)
  | none => .ofV (armConvert G H s d x)

def op1 (G : Glob) (H : AH) (ρ : Rho) : Op → R1
  | .move x => .ofV (ρ x)
  | .assign x => .ofV (ρ x)
  | .pick c a b => xPick ρ c a b
  | .alloc e => xAlloc G e
  | .box e x => xBox ρ e x
  | .build t ps => match evP ρ ps.toList with
    | some l => .ofV (armBuild G t l)
    | none => .bad
  | .buildSlice t n ps => match evP ρ ps.toList with
    | some l => .ofN (armBuildSlice G t n l)
    | none => .bad
  | .insert t m k v => o1 (ρ m) fun m => o1 (ρ k) fun k => o1 (ρ v) fun v => .ofE (armUpdate G H t m k v)
  | .load t a => o1 (ρ a) fun a => .ofV (armLoad G H t a)
  | .store t a v => o1 (ρ a) fun a => o1 (ρ v) fun v => .ofE (armStore G H t a v)
  | .nilCheck x => xNil ρ x
  | .binOp op t x y _ => o1 (ρ x) fun a => o1 (ρ y) fun b => .ofV (armBin G op t (isNilC x || isNilC y) a b)
  | .unOp op _ x => o1 (ρ x) fun a => .ofV (armUn op a)
  | .convert s d x => o1 (ρ x) fun x => xConv G H s d x
  | .makeInterface t x => o1 (ρ x) fun a => .ofV (armIface G t a)
  | .makeFunc fn a b => xFunc ρ fn a b
  | .makeMap _ none => .new (.map [] 0) (fun id => .m id)
  | .makeSlice t l c => o1 (ρ l) fun l => o1 (ρ c) fun c => .ofN (armMakeSlice G t l c)
  | .slice t x lo hi none => o1 (ρ x) fun x => match ofO ρ lo, ofO ρ hi with
    | some lo, some hi => .ofV (armSlice G t x lo hi)
    | _, _ => .bad
  | .fieldAddr t x f => o1 (ρ x) fun x => .ofV (armFieldAddr G t f x)
  | .field t x f => o1 (ρ x) fun x => .ofV (armField G t f x)
  | .indexAddr t x i => o1 (ρ x) fun x => o1 (ρ i) fun i => .ofV (armIndexAddr G t x i)
  | .index t x i => o1 (ρ x) fun x => o1 (ρ i) fun i => .ofV (armIndex G t x i)
  | .lookup t x k ok => o1 (ρ x) fun x => o1 (ρ k) fun k => .ofV (armLookup G H t x k ok)
  | .mapUpdate t m k v => o1 (ρ m) fun m => o1 (ρ k) fun k => o1 (ρ v) fun v => .ofE (armUpdate G H t m k v)
  | .mapEntry t m k => o1 (ρ m) fun m => o1 (ρ k) fun k => .ofE (armMapEntry G H t m k)
  | .entryStore _ m s v => o1 (ρ m) fun m => o1 (ρ s) fun s => o1 (ρ v) fun v => .ofE (armEntryStore H m s v)
  | .range t x => o1 (ρ x) fun x => .ofN (armRange G H t x)
  | .next i s => o1 (ρ i) fun i => .ofE (armNext H i s)
  | .entry i => o1 (ρ i) fun i => .ofV (armEntry H i)
  | .typeAssert x _ t ok => o1 (ρ x) fun x => .ofV (armAssert G t ok x)
  | .extract t n => o1 (ρ t) fun t => .ofV (armExtract n t)
  | .call c => xCall G H ρ c
  | .defer c => xDefer ρ c
  | _ => .bad

/-! ### Frames -/
inductive AI where
  | code (c : Code)
  | blk (id : Nat)
  | lp (b : Code)
  | scp (b : Code)
  | reg (ops : Array Oper) (i : Nat) (rest : List Oper)
  /-- A region that draws: what is yet to be done; what is to be looked at anew at its end. -/
  | dreg (ops : Array Oper) (todo : List (Nat × PK)) (rv : List Nat)
  | rf (id : Nat)
  | erf (id : Nat)
  | br

structure AF where
  fn : FuncId
  n : Nat
  env : Tr V
  todo : List AI
  dfs : List Dfr
  ret : Bool
  dk : Bool                -- deferred kind
  rnd : Option Nat

structure AM where
  fr : AF
  cs : List AF
  H : AH
namespace AF
def go : AF → List AI → AF
  | ⟨fn, n, env, _, dfs, ret, dk, rnd⟩, k => ⟨fn, n, env, k, dfs, ret, dk, rnd⟩
def go2 : AF → Tr V → List AI → AF
  | ⟨fn, n, _, _, dfs, ret, dk, rnd⟩, e, k => ⟨fn, n, e, k, dfs, ret, dk, rnd⟩
def toRet : AF → AF
  | ⟨fn, n, env, todo, dfs, _, dk, rnd⟩ => ⟨fn, n, env, todo, dfs, true, dk, rnd⟩
def setD : AF → List Dfr → AF
  | ⟨fn, n, env, todo, _, ret, dk, rnd⟩, dfs => ⟨fn, n, env, todo, dfs, ret, dk, rnd⟩
end AF

def dep : Nat → Nat → Nat
  | 0, _ => 0
  | f + 1, n => match n with
    | 0 => 0
    | n + 1 => dep f (n / 2) + 1
def setArgs (env : Tr V) : Nat → List V → Tr V
  | _, [] => env
  | i, v :: l => setArgs (env.set i (some v)) (i + 1) l
def enter (G : Glob) (f : FuncId) (args : List V) (dk : Bool) : Option AF :=
  match G.F.get f with
  | some af => match af.ext, af.fn.body with
    | none, some c => match decide (args.length ≤ af.fn.ntmps) with
      | true => some { fn := f, n := af.fn.ntmps, env := setArgs (Tr.full (dep 20 af.fn.ntmps)) 0 args, todo := [.code c], dfs := [], ret := false, dk, rnd := none }
      | false => none
    | _, _ => none
  | none => none

def putT (n : Nat) (env : Tr V) (d : Option Tmp) (v : V) : Option (Tr V) := match d with
  | none => some env
  | some d => match decide (d < n) with
    | true => some (env.set d (some v))
    | false => none

def nthO : List Oper → Nat → Option Oper
  | [], _ => none
  | o :: _, 0 => some o
  | _ :: l, n + 1 => nthO l n
/-- A guard's answer. -/
def wantedA (ops : Array Oper) (env : Tr V) (o : Oper) : Option Bool := match o.guard with
  | none => some true
  | some (j, want) => match nthO ops.toList j with
    | some g => match g.dst with
      | some t => match env.get t with
        | some (.b x) => some (x == want)
        | some (.tup []) => some false
        | _ => none
      | none => none
    | none => none

def exitA (id : Nat) : List AI → Option (List AI)
  | [] => none
  | .blk id' :: k => match decide (id' = id) with
    | true => some k
    | false => exitA id k
  | _ :: k => exitA id k
def gotoA (l : Nat) : List AI → Option (List AI)
  | [] => none
  | .scp b :: k => match findLabel b l with
    | some r => some (.code r :: .scp b :: k)
    | none => gotoA l k
  | _ :: k => gotoA l k

/-- A value comes back to a frame. -/
def AF.fin (fr : AF) (v : V) : Option AF := match fr.todo with
  | .reg ops i (o :: rest) :: k => match putT fr.n fr.env o.dst v with
    | some e => some (fr.go2 e (.reg ops (i + 1) rest :: k))
    | none => none
  | .dreg ops ((j, _) :: l) rv :: k => match nthO ops.toList j with
    | some o => match putT fr.n fr.env o.dst v with
      | some e => some (fr.go2 e (.dreg ops l rv :: k))
      | none => none
    | none => none
  | .rf id :: k => some (fr.go (.erf id :: k))
  | .br :: k => some (fr.go (k))
  | _ => none

def addArgs (n : Nat) (env : Tr V) : List Tmp → List V → Option (Tr V)
  | [], [] => some env
  | t :: ts, v :: vs => match decide (t < n) with
    | true => addArgs n (env.set t (some v)) ts vs
    | false => none
  | _, _ => none

/-- What comes of an operation at the head of a frame. -/
def doR1 (G : Glob) (fr : AF) (cs : List AF) (H : AH) : R1 → Option AM
  | .val v => match fr.fin v with
    | some fr => some ⟨fr, cs, H⟩
    | none => none
  | .new o mk => match fr.fin (mk H.nx) with
    | some fr => some ⟨fr, cs, H.push o⟩
    | none => none
  | .eff v H => match fr.fin v with
    | some fr => some ⟨fr, cs, H⟩
    | none => none
  | .call f args => match enter G f args false with
    | some fr' => some ⟨fr', fr :: cs, H⟩
    | none => none
  | .know _ _ r => match fr.fin r with
    | some fr => some ⟨fr, cs, H⟩
    | none => none
  | .round id args => match H.get id with
    | some (.loop l) => match addArgs l.n l.env l.params args with
      | some e => some ⟨{ fn := l.fn, n := l.n, env := e, todo := [.code l.assign, .br, .code l.body], dfs := [], ret := false, dk := false, rnd := some id }, fr :: cs, H⟩
      | none => none
    | _ => none
  | .dfr d => match fr.rnd with
    | none => match fr.fin uV with
      | some fr => some ⟨fr.setD (d :: fr.dfs), cs, H⟩
      | none => none
    | some _ => none
  | .rec_ => match fr.rnd, fr.dk, cs with
    | none, true, c :: _ => match c.ret with
      | true => match fr.fin .i0 with
        | some fr => some ⟨fr, cs, H⟩
        | none => none
      | false => none
    | _, _, _ => none
  | .bad => none

mutual
def vbeq : V → V → Bool
  | .b x, v => match v with
    | .b z => x == z
    | _ => false
  | .i j x, v => match v with
    | .i k z => decide (j = k) && decide (x = z)
    | _ => false
  | .s x, v => match v with
    | .s z => sEq x z
    | _ => false
  | .p0, v => match v with
    | .p0 => true
    | _ => false
  | .p a o, v => match v with
    | .p a' o' => Nat.beq a a' && Nat.beq o o'
    | _ => false
  | .dp x l o, v => match v with
    | .dp x' l' o' => (x == x') && (Nat.beq o o' && vbeqs l l')
    | _ => false
  | .s0, v => match v with
    | .s0 => true
    | _ => false
  | .se, v => match v with
    | .se => true
    | _ => false
  | .sl a o n c f, v => match v with
    | .sl a' o' n' c' f' => Nat.beq a a' && (Nat.beq o o' && (Nat.beq n n' && (Nat.beq c c' && (f == f'))))
    | _ => false
  | .S x l n, v => match v with
    | .S x' l' n' => (x == x') && (Nat.beq n n' && vbeqs l l')
    | _ => false
  | .m0, v => match v with
    | .m0 => true
    | _ => false
  | .m a, v => match v with
    | .m a' => Nat.beq a a'
    | _ => false
  | .f g a c, v => match v with
    | .f g' a' c' => Nat.beq g g' && (vbeqs a a' && vbeqs c c')
    | _ => false
  | .f0, v => match v with
    | .f0 => true
    | _ => false
  | .y a, v => match v with
    | .y a' => Nat.beq a a'
    | _ => false
  | .ifc t x, v => match v with
    | .ifc u z => Nat.beq t u && vbeq x z
    | _ => false
  | .i0, v => match v with
    | .i0 => true
    | _ => false
  | .agg l, v => match v with
    | .agg l' => vbeqs l l'
    | _ => false
  | .tup l, v => match v with
    | .tup l' => vbeqs l l'
    | _ => false
def vbeqs : List V → List V → Bool
  | [], l => match l with
    | [] => true
    | _ => false
  | x :: xs, l => match l with
    | z :: zs => vbeq x z && vbeqs xs zs
    | [] => false
end
/-- A new block is what stands at id. -/
def sameNew (H : AH) (ob : AO) (id : Nat) : Bool := match H.get id with
  | some x => match ob, x with
    | .cells l e r, .cells l' e' r' => Nat.beq e e' && ((r == r') && vbeqs l l')
    | .map [] n, .map [] n' => Nat.beq n n'
    | .siter l n, .siter l' n' => sEq l l' && Nat.beq n n'
    | _, _ => false
  | none => false
def idOf : V → Option Nat
  | .p id _ => some id
  | .sl id _ _ _ _ => some id
  | .m id => some id
  | _ => none

/-- An operation without an effect comes to what it came to. -/
def lookA (G : Glob) (H : AH) (ops : Array Oper) (env : Tr V) (j : Nat) : Bool := match nthO ops.toList j with
  | some o => match wantedA ops env o with
    | some true => match op1 G H (ev G env) o.op with
      | .val v => match o.dst with
        | some d => match env.get d with
          | some w => vbeq v w
          | none => false
        | none => true
      | .new ob mk => match o.dst with
        | some d => match env.get d with
          | some w => match idOf w with
            | some id => vbeq (mk id) w && sameNew H ob id
            | none => false
          | none => false
        | none => false
      | _ => false
    | some false => match o.dst with
      | some d => match env.get d with
        | some w => vbeq uV w
        | none => false
      | none => true
    | none => false
  | none => false
def lookAll (G : Glob) (H : AH) (ops : Array Oper) (env : Tr V) : List Nat → Bool
  | [] => true
  | j :: l => lookA G H ops env j && lookAll G H ops env l

def findPlan (id : Nat) : List Plan → Option Plan
  | [] => none
  | p :: l => match Nat.beq p.id id with
    | true => some p
    | false => findPlan id l
def planOf (G : Glob) (fn : FuncId) (rid : Nat) : Option Plan := match G.F.get fn with
  | some af => findPlan rid af.plans
  | none => none

/-- The frame's code has come to its end, or leaves by a jump. -/
def leaveA (fr : AF) (cs : List AF) (H : AH) (j : Option Code) : Option AM := match fr.rnd with
  | none => match j with
    | none => some ⟨fr.toRet, cs, H⟩
    | some .ret => some ⟨fr.toRet, cs, H⟩
    | _ => none
  | some id => match H.get id, cs with
    | some (.loop l), c :: rest => match c.fin (.b j.isNone) with
      | some c' => some ⟨c', rest, H.set id (.loop { l with st := j.isNone, over := j.isSome, pend := j })⟩
      | none => none
    | _, _ => none

def resA (H : AH) (G : Glob) (env : Tr V) : List ResultVar → Option (List V)
  | [] => some []
  | r :: l => match (match r with
      | .tmp t => env.get t
      | .cell a t => match env.get a with
        | some v => armLoad G H t v
        | none => none), resA H G env l with
    | some v, some vs => some (v :: vs)
    | _, _ => none
def resV : List V → V
  | [v] => v
  | l => .tup l

def unwindA (G : Glob) (fr : AF) (cs : List AF) (H : AH) : Option AM := match fr.dfs with
  | ⟨.p id 0, _⟩ :: ds => match H.get id with
    | some (.dfd l) => some ⟨fr.setD (l ++ ds), cs, H.del id⟩
    | _ => none
  | ⟨.f g a b, args⟩ :: ds => match enter G g (a ++ (args ++ b)) true with
    | some fr' => some ⟨fr', fr.setD ds :: cs, H⟩
    | none => none
  | _ :: _ => none
  | [] => match G.F.get fr.fn, cs with
    | some af, c :: rest => match resA H G fr.env af.fn.results.toList with
      | some vs => match fr.dk with
        | true => some ⟨c, rest, H⟩
        | false => match c.fin (resV vs) with
          | some c' => some ⟨c', rest, H⟩
          | none => none
      | none => none
    | _, _ => none

def loopOf (fr : AF) (params : List Tmp) (assign body : Code) (dn : Nat) : AO :=
  .loop { st := true, over := false, pend := none, fn := fr.fn, n := fr.n, env := fr.env, params, assign, body, dfs := dn }
def stepRF (G : Glob) (fr : AF) (cs : List AF) (H : AH) (k : List AI) (f : Operand) (params : List Tmp) (assign body : Code) : Option AM :=
  match ev G fr.env f with
  | some (.f g a b) => match fr.rnd with
    | none => match enter G g (a ++ (.y (H.nx + 1) :: b)) false with
      | some fr' => some ⟨fr', (fr.go (.rf (H.nx + 1) :: k)).setD (⟨.p H.nx 0, []⟩ :: fr.dfs) :: cs, (H.push (.dfd [])).push (loopOf fr params assign body H.nx)⟩
      | none => none
    | some l0 => match H.get l0 with
      | some (.loop r0) => match enter G g (a ++ (.y H.nx :: b)) false with
        | some fr' => some ⟨fr', fr.go (.rf H.nx :: k) :: cs, H.push (loopOf fr params assign body r0.dfs)⟩
        | none => none
      | _ => none
  | _ => none
def stepC (G : Glob) (fr : AF) (cs : List AF) (H : AH) (k : List AI) : Code → Option AM
  | .skip => some ⟨fr.go (k), cs, H⟩
  | .label _ => some ⟨fr.go (k), cs, H⟩
  | .seq a b => some ⟨fr.go (.code a :: .code b :: k), cs, H⟩
  | .cond c a b => match ev G fr.env c with
    | some (.b true) => some ⟨fr.go (.code a :: k), cs, H⟩
    | some (.b false) => some ⟨fr.go (.code b :: k), cs, H⟩
    | _ => none
  | .block id b => some ⟨fr.go (.code b :: .blk id :: k), cs, H⟩
  | .loop b => some ⟨fr.go (.code b :: .lp b :: k), cs, H⟩
  | .scope b => some ⟨fr.go (.code b :: .scp b :: k), cs, H⟩
  | .exit id => match exitA id k with
    | some k' => some ⟨fr.go (k'), cs, H⟩
    | none => leaveA fr cs H (some (.exit id))
  | .goto l => match gotoA l k with
    | some k' => some ⟨fr.go (k'), cs, H⟩
    | none => leaveA fr cs H (some (.goto l))
  | .ret => leaveA fr cs H (some .ret)
  | .region id ops d => match d with
    | false => some ⟨fr.go (.reg ops 0 ops.toList :: k), cs, H⟩
    | true => match planOf G fr.fn id with
      | some pl => some ⟨fr.go (.dreg ops pl.l pl.rv :: k), cs, H⟩
      | none => none
  | .rangeFunc f params assign body => stepRF G fr cs H k f params.toList assign body
  | .refuse _ => none

def stepD (G : Glob) (fr : AF) (cs : List AF) (H : AH) (k : List AI) (ops : Array Oper) (rv : List Nat) : List (Nat × PK) → Option AM
  | [] => match lookAll G H ops fr.env rv with
    | true => some ⟨fr.go (k), cs, H⟩
    | false => none
  | (j, pk) :: l => match nthO ops.toList j with
    | none => none
    | some o => match pk with
      | .ef rv' => match lookAll G H ops fr.env rv' with
        | false => none
        | true => match wantedA ops fr.env o with
          | some true => doR1 G fr cs H (op1 G H (ev G fr.env) o.op)
          | some false => match putT fr.n fr.env o.dst uV with
            | some e => some ⟨fr.go2 e (.dreg ops l rv :: k), cs, H⟩
            | none => none
          | none => none
      | .fl => match wantedA ops fr.env o with
        | some true => match op1 G H (ev G fr.env) o.op with
          | .val v => match putT fr.n fr.env o.dst v with
            | some e => some ⟨fr.go2 e (.dreg ops l rv :: k), cs, H⟩
            | none => none
          | .new ob mk => match putT fr.n fr.env o.dst (mk H.nx) with
            | some e => some ⟨fr.go2 e (.dreg ops l rv :: k), cs, H.push ob⟩
            | none => none
          | _ => none
        | some false => match putT fr.n fr.env o.dst uV with
          | some e => some ⟨fr.go2 e (.dreg ops l rv :: k), cs, H⟩
          | none => none
        | none => none

def stepI (G : Glob) (fr : AF) (cs : List AF) (H : AH) : List AI → Option AM
  | [] => leaveA fr cs H none
  | .code c :: k => stepC G fr cs H k c
  | .blk _ :: k => some ⟨fr.go (k), cs, H⟩
  | .scp _ :: k => some ⟨fr.go (k), cs, H⟩
  | .lp b :: k => some ⟨fr.go (.code b :: .lp b :: k), cs, H⟩
  | .reg ops i rest :: k => match rest with
    | [] => some ⟨fr.go (k), cs, H⟩
    | o :: rest => match wantedA ops fr.env o with
      | some true => doR1 G fr cs H (op1 G H (ev G fr.env) o.op)
      | some false => match putT fr.n fr.env o.dst uV with
        | some e => some ⟨fr.go2 e (.reg ops (i + 1) rest :: k), cs, H⟩
        | none => none
      | none => none
  | .dreg ops todo rv :: k => stepD G fr cs H k ops rv todo
  | .rf _ :: _ => none
  | .erf id :: k => match H.get id with
    | some (.loop l) => match l.st || l.over with
      | true => some ⟨fr.go (match l.pend with | some j => .code j :: k | none => k), cs, H.set id (.loop { l with st := false, over := false })⟩
      | false => none
    | _ => none
  | .br :: k => match fr.rnd with
    | some id => match H.get id with
      | some (.loop l) => match l.st with
        | true => some ⟨fr.go (k), cs, H.set id (.loop { l with st := false, over := false })⟩
        | false => none
      | _ => none
    | none => none

def step1 (G : Glob) (m : AM) : Option AM := match m.fr.ret with
  | true => unwindA G m.fr m.cs m.H
  | false => stepI G m.fr m.cs m.H m.fr.todo

/-- The outermost frame has come to its end: the result. -/
def final (G : Glob) (m : AM) : Option V := match m.fr.ret, m.fr.dfs, m.cs with
  | true, [], [] => match G.F.get m.fr.fn with
    | some af => match resA m.H G m.fr.env af.fn.results.toList with
      | some vs => some (resV vs)
      | none => none
    | none => none
  | _, _, _ => none
end Go.Proofs.YtbkipanlicgooaaGreatDoor
namespace Go.Proofs.YtbkipanlicgooaaGreatDoor

structure Loc where
  b : Nat
  cap : Nat
/-- Where the ids lie; the memory that never changes; the first block that is no older than the call. -/
structure Ctx where
  μ : Nat → Option Loc
  Φ : Nat → Option Obj
  base : Nat

def str (l : List Nat) : ByteArray := ⟨(l.map UInt8.ofNat).toArray⟩

mutual
/-- The abstract value v stands for the value. -/
def Rep (c : Ctx) : V → Value → Prop
  | .b x, y => y = .bool x
  | .i k n, y => y = .int k n
  | .s l, y => (∀ z ∈ l, z < 256) ∧ y = .string (str l)
  | .p0, y => y = .pointer none
  | .p id o, y => ∃ l, c.μ id = some l ∧ y = .pointer (some ⟨l.b, o, none⟩)
  | .dp old cs off, y => ∃ b o C e fz, y = .pointer (some ⟨b, o + off, none⟩) ∧ c.Φ b = some (.cells C e fz) ∧ (old = false → c.base ≤ b) ∧ RepC c cs C o
  | .s0, y => y = .slice none 0 0
  | .se, y => ∃ a k, y = .slice (some a) 0 k
  | .sl id o n k fix, y => ∃ l, c.μ id = some l ∧ n ≤ (if fix then k else l.cap - k) ∧ y = .slice (some ⟨l.b, o, none⟩) n (if fix then k else l.cap - k)
  | .S old cs n, y => ∃ b o k C e fz, y = .slice (some ⟨b, o, none⟩) n k ∧ n ≤ k ∧ c.Φ b = some (.cells C e fz) ∧ (old = false → c.base ≤ b) ∧ RepC c cs C o
  | .m0, y => y = .map none
  | .m id, y => ∃ l, c.μ id = some l ∧ y = .map (some l.b)
  | .f g a k, y => ∃ A K : Array Value, y = .func (.func g) A K ∧ Reps c a A.toList ∧ Reps c k K.toList
  | .f0, y => y = .nilFunc
  | .y id, y => ∃ l, c.μ id = some l ∧ y = .func (.yield l.b) #[] #[]
  | .ifc t v, y => ∃ z, y = .iface t z ∧ Rep c v z
  | .i0, y => y = .nilIface
  | .agg l, y => ∃ A : Array Value, y = .agg A ∧ Reps c l A.toList
  | .tup l, y => ∃ A : Array Value, y = .tuple A ∧ Reps c l A.toList
def Reps (c : Ctx) : List V → List Value → Prop
  | [], l => l = []
  | v :: vs, l => ∃ y ys, l = y :: ys ∧ Rep c v y ∧ Reps c vs ys
/-- The cells from o on. -/
def RepC (c : Ctx) : List V → Array Value → Nat → Prop
  | [], _, _ => True
  | v :: vs, C, o => ∃ y, C[o]? = some y ∧ Rep c v y ∧ RepC c vs C (o + 1)
end

/-- c' says what c says. -/
structure Le (c c' : Ctx) : Prop where
  μ : ∀ id l, c.μ id = some l → c'.μ id = some l
  Φ : ∀ b ob, c.Φ b = some ob → c'.Φ b = some ob
  base : c'.base ≤ c.base
theorem Le.refl (c : Ctx) : Le c c := ⟨fun _ _ h => h, fun _ _ h => h, Nat.le_refl _⟩
theorem Le.trans {a b c : Ctx} (h : Le a b) (k : Le b c) : Le a c :=
  ⟨fun i l e => k.μ i l (h.μ i l e), fun i l e => k.Φ i l (h.Φ i l e), Nat.le_trans k.base h.base⟩

mutual
theorem Rep.le {c c' : Ctx} (h : Le c c') : ∀ v y, Rep c v y → Rep c' v y
  | .b _, _, e | .i _ _, _, e | .s _, _, e | .p0, _, e | .s0, _, e | .se, _, e | .m0, _, e | .f0, _, e | .i0, _, e => by simpa only [Rep] using e
  | .p id o, y, e => by
    simp only [Rep] at e ⊢
    obtain ⟨l, h1, h2⟩ := e
    exact ⟨l, h.μ _ _ h1, h2⟩
  | .dp old cs off, y, e => by
    simp only [Rep] at e ⊢
    obtain ⟨b, o, C, t, fz, h1, h2, h3, h4⟩ := e
    exact ⟨b, o, C, t, fz, h1, h.Φ _ _ h2, fun k => Nat.le_trans h.base (h3 k), RepC.le h cs C o h4⟩
  | .sl id o n k fix, y, e => by
    simp only [Rep] at e ⊢
    obtain ⟨l, h1, h2⟩ := e
    exact ⟨l, h.μ _ _ h1, h2⟩
  | .S old cs n, y, e => by
    simp only [Rep] at e ⊢
    obtain ⟨b, o, k, C, t, fz, h1, h0, h2, h3, h4⟩ := e
    exact ⟨b, o, k, C, t, fz, h1, h0, h.Φ _ _ h2, fun k => Nat.le_trans h.base (h3 k), RepC.le h cs C o h4⟩
  | .m id, y, e => by
    simp only [Rep] at e ⊢
    obtain ⟨l, h1, h2⟩ := e
    exact ⟨l, h.μ _ _ h1, h2⟩
  | .f g a k, y, e => by
    simp only [Rep] at e ⊢
    obtain ⟨A, K, h1, h2, h3⟩ := e
    exact ⟨A, K, h1, Reps.le h a _ h2, Reps.le h k _ h3⟩
  | .y id, y, e => by
    simp only [Rep] at e ⊢
    obtain ⟨l, h1, h2⟩ := e
    exact ⟨l, h.μ _ _ h1, h2⟩
  | .ifc t v, y, e => by
    simp only [Rep] at e ⊢
    obtain ⟨z, h1, h2⟩ := e
    exact ⟨z, h1, Rep.le h v z h2⟩
  | .agg l, y, e => by
    simp only [Rep] at e ⊢
    obtain ⟨A, h1, h2⟩ := e
    exact ⟨A, h1, Reps.le h l _ h2⟩
  | .tup l, y, e => by
    simp only [Rep] at e ⊢
    obtain ⟨A, h1, h2⟩ := e
    exact ⟨A, h1, Reps.le h l _ h2⟩
theorem Reps.le {c c' : Ctx} (h : Le c c') : ∀ l ys, Reps c l ys → Reps c' l ys
  | [], _, e => by simpa only [Reps] using e
  | v :: vs, ys, e => by
    simp only [Reps] at e ⊢
    obtain ⟨y, ys', h1, h2, h3⟩ := e
    exact ⟨y, ys', h1, Rep.le h v y h2, Reps.le h vs ys' h3⟩
theorem RepC.le {c c' : Ctx} (h : Le c c') : ∀ l C o, RepC c l C o → RepC c' l C o
  | [], _, _, e => by simp only [RepC]
  | v :: vs, C, o, e => by
    simp only [RepC] at e ⊢
    obtain ⟨y, h1, h2, h3⟩ := e
    exact ⟨y, h1, Rep.le h v y h2, RepC.le h vs C (o + 1) h3⟩
end

theorem Reps.nil {c : Ctx} {l : List Value} : Reps c [] l ↔ l = [] := by simp only [Reps]
theorem Reps.cons {c : Ctx} {v : V} {vs : List V} {l : List Value} : Reps c (v :: vs) l ↔ ∃ y ys, l = y :: ys ∧ Rep c v y ∧ Reps c vs ys := by simp only [Reps]
theorem Reps.cons' {c : Ctx} {v : V} {vs : List V} {y : Value} {ys : List Value} : Reps c (v :: vs) (y :: ys) ↔ Rep c v y ∧ Reps c vs ys := by
  rw [Reps.cons]
  constructor
  · rintro ⟨z, zs, h, a, b⟩
    cases h
    exact ⟨a, b⟩
  · rintro ⟨a, b⟩
    exact ⟨y, ys, rfl, a, b⟩
theorem Reps.append {c : Ctx} : ∀ {a b : List V} {x y : List Value}, Reps c a x → Reps c b y → Reps c (a ++ b) (x ++ y)
  | [], b, x, y, h, k => by rw [Reps.nil] at h; subst h; simpa using k
  | v :: vs, b, x, y, h, k => by
    obtain ⟨z, zs, rfl, h1, h2⟩ := Reps.cons.1 h
    exact Reps.cons'.2 ⟨h1, h2.append k⟩
theorem Reps.length {c : Ctx} : ∀ {l : List V} {x : List Value}, Reps c l x → x.length = l.length
  | [], x, h => by rw [Reps.nil] at h; subst h; rfl
  | v :: vs, x, h => by
    obtain ⟨z, zs, rfl, _, h2⟩ := Reps.cons.1 h
    simp [h2.length]
theorem Reps.get {c : Ctx} : ∀ {l : List V} {x : List Value} {n : Nat} {v : V}, Reps c l x → at1 l n = some v → ∃ y, x[n]? = some y ∧ Rep c v y
  | [], x, n, v, h, e => by simp [at1] at e
  | u :: us, x, 0, v, h, e => by
    obtain ⟨z, zs, rfl, h1, h2⟩ := Reps.cons.1 h
    simp only [at1, Option.some.injEq] at e
    subst e
    exact ⟨z, rfl, h1⟩
  | u :: us, x, n + 1, v, h, e => by
    obtain ⟨z, zs, rfl, h1, h2⟩ := Reps.cons.1 h
    simp only [at1] at e
    obtain ⟨y, k1, k2⟩ := h2.get e
    exact ⟨y, by simpa using k1, k2⟩

theorem RepC.at1 {c : Ctx} : ∀ {l : List V} {C : Array Value} {o n : Nat} {v : V}, RepC c l C o → YtbkipanlicgooaaGreatDoor.at1 l n = some v → ∃ y, C[o + n]? = some y ∧ Rep c v y
  | [], C, o, n, v, h, e => by simp [YtbkipanlicgooaaGreatDoor.at1] at e
  | u :: us, C, o, 0, v, h, e => by
    simp only [RepC] at h
    obtain ⟨y, h1, h2, _⟩ := h
    simp only [YtbkipanlicgooaaGreatDoor.at1, Option.some.injEq] at e
    subst e
    exact ⟨y, by simpa using h1, h2⟩
  | u :: us, C, o, n + 1, v, h, e => by
    simp only [RepC] at h
    obtain ⟨y, _, _, h3⟩ := h
    simp only [YtbkipanlicgooaaGreatDoor.at1] at e
    obtain ⟨y, k1, k2⟩ := h3.at1 e
    exact ⟨y, by rw [← k1]; congr 1; omega, k2⟩
theorem RepC.drop {c : Ctx} : ∀ {l : List V} {C : Array Value} {o k : Nat}, RepC c l C o → RepC c (dropV l k) C (o + k)
  | l, C, o, 0, h => by cases l <;> simpa only [dropV, Nat.add_zero] using h
  | [], C, o, k + 1, h => by simp only [dropV, RepC]
  | v :: vs, C, o, k + 1, h => by
    simp only [RepC] at h
    obtain ⟨y, _, _, h3⟩ := h
    have := h3.drop (k := k)
    simp only [dropV]
    rw [show o + (k + 1) = o + 1 + k by omega]
    exact this
theorem RepC.takeN {c : Ctx} : ∀ {n : Nat} {l r : List V} {C : Array Value} {o : Nat}, RepC c l C o → YtbkipanlicgooaaGreatDoor.takeN n l = some r →
    ∃ ys, Reps c r ys ∧ ys.length = n ∧ ∀ j y, ys[j]? = some y → C[o + j]? = some y
  | 0, l, r, C, o, h, e => by
    simp only [YtbkipanlicgooaaGreatDoor.takeN, Option.some.injEq] at e
    subst e
    exact ⟨[], Reps.nil.2 rfl, rfl, fun j y hj => by simp at hj⟩
  | n + 1, [], r, C, o, h, e => by simp [YtbkipanlicgooaaGreatDoor.takeN] at e
  | n + 1, v :: l, r, C, o, h, e => by
    simp only [RepC] at h
    obtain ⟨y, h1, h2, h3⟩ := h
    simp only [YtbkipanlicgooaaGreatDoor.takeN] at e
    split at e
    · rename_i r' hr
      cases e
      obtain ⟨ys, k1, k2, k3⟩ := h3.takeN hr
      refine ⟨y :: ys, Reps.cons'.2 ⟨h2, k1⟩, by simp [k2], fun j z hj => ?_⟩
      cases j with
      | zero => simp at hj; subst hj; simpa using h1
      | succ j =>
        have := k3 j z (by simpa using hj)
        rw [← this]; congr 1; omega
    · cases e
theorem RepC.cut {c : Ctx} : ∀ {l r : List V} {off n : Nat} {C : Array Value} {o : Nat}, RepC c l C o → YtbkipanlicgooaaGreatDoor.cut l off n = some r →
    ∃ ys, Reps c r ys ∧ ys.length = n ∧ ∀ j y, ys[j]? = some y → C[o + off + j]? = some y
  | l, r, 0, n, C, o, h, e => by
    have e' : YtbkipanlicgooaaGreatDoor.takeN n l = some r := by cases l <;> simpa only [YtbkipanlicgooaaGreatDoor.cut] using e
    simpa using h.takeN e'
  | v :: l, r, off + 1, n, C, o, h, e => by
    simp only [RepC] at h
    obtain ⟨y, h1, h2, h3⟩ := h
    simp only [YtbkipanlicgooaaGreatDoor.cut] at e
    obtain ⟨ys, k1, k2, k3⟩ := h3.cut e
    exact ⟨ys, k1, k2, fun j z hj => by rw [← k3 j z hj]; congr 1; omega⟩
  | [], r, off + 1, n, C, o, h, e => by
    simp only [YtbkipanlicgooaaGreatDoor.cut] at e
    cases n with
    | zero => cases e; exact ⟨[], Reps.nil.2 rfl, rfl, fun j y hj => by simp at hj⟩
    | succ n => cases e
theorem RepC.of {c : Ctx} : ∀ {l : List V} {C : Array Value} {o : Nat} {ys : List Value}, Reps c l ys → (∀ j y, ys[j]? = some y → C[o + j]? = some y) → RepC c l C o
  | [], C, o, ys, h, e => by simp only [RepC]
  | v :: vs, C, o, ys, h, e => by
    obtain ⟨z, zs, rfl, h1, h2⟩ := Reps.cons.1 h
    simp only [RepC]
    refine ⟨z, by simpa using e 0 z rfl, h1, RepC.of h2 fun j y hj => ?_⟩
    rw [← e (j + 1) y (by simpa using hj)]; congr 1; omega
theorem RepC.len {c : Ctx} : ∀ {l : List V} {C : Array Value} {o : Nat}, RepC c l C o → l ≠ [] → o + l.length ≤ C.size
  | [], C, o, h, e => absurd rfl e
  | [v], C, o, h, e => by
    simp only [RepC] at h
    obtain ⟨y, h1, _⟩ := h
    have := (Array.getElem?_eq_some_iff.1 h1).1
    simp only [List.length_cons, List.length_nil]
    omega
  | v :: u :: vs, C, o, h, e => by
    simp only [RepC] at h
    obtain ⟨y, _, _, h3⟩ := h
    have := RepC.len (l := u :: vs) (o := o + 1) (by simpa only [RepC] using h3) (by simp)
    simp only [List.length_cons] at this ⊢
    omega

/-! ### Tries -/
namespace Tr
variable {α : Type}
theorem get_set : ∀ (t : Tr α) (n : Nat) (x : Option α) (m : Nat) (u : α), (t.set n x).get m = some u → (m = n ∧ x = some u) ∨ (m ≠ n ∧ t.get m = some u)
  | .nil, 0, x, 0, u, h => by simp [set, get] at h; exact .inl ⟨rfl, h⟩
  | .nil, 0, x, m + 1, u, h => by simp [set, get] at h; split at h <;> simp at h
  | .nil, n + 1, x, m, u, h => by simp [set, get] at h
  | .node l v r, 0, x, 0, u, h => by simp [set, get] at h; exact .inl ⟨rfl, h⟩
  | .node l v r, 0, x, m + 1, u, h => by simp only [set, get] at h; exact .inr ⟨by omega, by simpa only [get] using h⟩
  | .node l v r, n + 1, x, 0, u, h => by
    refine .inr ⟨by omega, ?_⟩
    simp only [set] at h
    split at h <;> simpa [get] using h
  | .node l v r, n + 1, x, m + 1, u, h => by
    simp only [set] at h
    split at h <;> rename_i hn <;> simp only [get] at h ⊢ <;> split at h <;> rename_i hm
    · rcases get_set l (n / 2) x (m / 2) u h with ⟨e, hx⟩ | ⟨e, hx⟩
      · refine .inl ⟨?_, hx⟩
        have h1 := Nat.eq_of_beq_eq_true hn
        have h2 := Nat.eq_of_beq_eq_true hm
        omega
      · exact .inr ⟨by intro e'; apply e; omega, hx⟩
    · refine .inr ⟨fun e' => ?_, by simpa [hm] using h⟩
      have : m = n := by omega
      subst this
      rw [hn] at hm; cases hm
    · refine .inr ⟨fun e' => ?_, by simpa [hm] using h⟩
      have : m = n := by omega
      subst this
      rw [hn] at hm; cases hm
    · rcases get_set r (n / 2) x (m / 2) u h with ⟨e, hx⟩ | ⟨e, hx⟩
      · refine .inl ⟨?_, hx⟩
        have h1 := Nat.ne_of_beq_eq_false hn
        have h2 := Nat.ne_of_beq_eq_false hm
        omega
      · exact .inr ⟨by intro e'; apply e; omega, hx⟩
theorem get_full : ∀ (d n : Nat), (full d : Tr α).get n = none
  | 0, n => by simp [full, get]
  | d + 1, 0 => by simp [full, get]
  | d + 1, n + 1 => by
    simp only [full, get]
    split
    · exact get_full d _
    · exact get_full d _
end Tr
theorem AH.get_set {H : AH} {id j : Nat} {o u : AO} (h : (H.set id o).get j = some u) : (j = id ∧ u = o) ∨ (j ≠ id ∧ H.get j = some u) := by
  rcases Tr.get_set _ _ _ _ _ h with ⟨e, hx⟩ | h
  · exact .inl ⟨e, (Option.some.inj hx).symm⟩
  · exact .inr h
theorem AH.get_push {H : AH} {j : Nat} {o u : AO} (h : (H.push o).get j = some u) : (j = H.nx ∧ u = o) ∨ (j ≠ H.nx ∧ H.get j = some u) := by
  rcases Tr.get_set _ _ _ _ _ h with ⟨e, hx⟩ | h
  · exact .inl ⟨e, (Option.some.inj hx).symm⟩
  · exact .inr h
theorem AH.get_del {H : AH} {id j : Nat} {u : AO} (h : (H.del id).get j = some u) : j ≠ id ∧ H.get j = some u := by
  rcases Tr.get_set _ _ _ _ _ h with ⟨e, hx⟩ | h
  · cases hx
  · exact h

/-! ### Blocks -/
def excl : AO → Bool
  | .cells _ _ rw => rw
  | _ => true

def DfR (c : Ctx) (d : Dfr) (d' : Deferred) : Prop :=
  match d.fn with
  | .p id _ => ∃ l, c.μ id = some l ∧ d' = { target := .collected l.b, args := #[] }
  | .f g a k => ∃ A K X : Array Value, Reps c a A.toList ∧ Reps c k K.toList ∧ Reps c d.args X.toList ∧ d' = { target := .fn (.func g) K, args := A ++ X }
  | _ => False
def DfRs (c : Ctx) : List Dfr → List Deferred → Prop
  | [], l => l = []
  | d :: ds, l => ∃ y ys, l = y :: ys ∧ DfR c d y ∧ DfRs c ds ys

/-- The temporaries, but for some. -/
def EnvR (c : Ctx) (X : Nat → Prop) (n : Nat) (env : Tr V) (tmps : Array Value) : Prop :=
  tmps.size = n ∧ (∀ t v, env.get t = some v → t < n) ∧ ∀ t v, env.get t = some v → ¬ X t → ∃ y, tmps[t]? = some y ∧ Rep c v y

/-- Every drawn region of the code that has a plan has a right one. -/
def okC (ok : Plan → Array Oper → Bool) (pls : List Plan) : Code → Bool
  | .region id ops d => match d with
    | false => true
    | true => match findPlan id pls with
      | some pl => ok pl ops
      | none => true
  | .seq a b => okC ok pls a && okC ok pls b
  | .cond _ a b => okC ok pls a && okC ok pls b
  | .block _ a => okC ok pls a
  | .loop a => okC ok pls a
  | .scope a => okC ok pls a
  | .rangeFunc _ _ a b => okC ok pls a && okC ok pls b
  | _ => true
def plansOf (G : Glob) (f : FuncId) : List Plan := match G.F.get f with
  | some af => af.plans
  | none => []

structure LoopR (ok : FuncId → Code → Prop) (c : Ctx) (a : ALoop) (l : Loop) : Prop where
  ready : a.st = true → l.state = .ready
  done : a.st = false → a.over = true → l.state = .done
  pend : l.pending = a.pend
  pok : ∀ f j, a.pend = some j → ok f j
  fn : l.fn = a.fn
  env : EnvR c (fun _ => False) a.n a.env l.tmps
  params : l.params = a.params.toArray
  assign : l.assign = a.assign ∧ ok a.fn a.assign
  body : l.body = a.body ∧ ok a.fn a.body
  dfs : ∃ d, c.μ a.dfs = some d ∧ l.defers = d.b

def RepE (c : Ctx) : List (V × V × Nat) → List MapEntry → Prop
  | [], l => l = []
  | e :: es, l => ∃ k v ys, l = ⟨k, v, e.2.2⟩ :: ys ∧ Rep c e.1 k ∧ Rep c e.2.1 v ∧ RepE c es ys

def OR (P : Program) (ok : FuncId → Code → Prop) (c : Ctx) (l : Loc) : AO → Obj → Prop
  | .cells cs e rw, ob => ∃ C fz, ob = .cells C e fz ∧ RepC c cs C 0 ∧ (rw = true → fz = (0, 0) ∧ l.cap * P.cellsOf e ≤ C.size)
  | .map es clk, ob => ∃ es' : Array MapEntry, ob = .map es' clk ∧ RepE c es es'.toList
  | .siter s pos, ob => (∀ z ∈ s, z < 256) ∧ ob = .stringIter (str s) pos
  | .miter m since seen st, ob => match m with
    | none => ob = .mapIter none since seen.toArray st
    | some id => ∃ k, c.μ id = some k ∧ ob = .mapIter (some k.b) since seen.toArray st
  | .loop a, ob => ∃ r, ob = .loop r ∧ LoopR ok c a r
  | .dfd ds, ob => ∃ ys, ob = .deferred (some ys) ∧ DfRs c ds ys

/-- The heap: each block that is known and has a place is there; blocks of one's own lie apart from all others. -/
structure HR (P : Program) (ok : FuncId → Code → Prop) (ng : Nat) (c : Ctx) (H : AH) (w : World) : Prop where
  fro : ∀ b ob, c.Φ b = some ob → w.heap[b]? = some ob
  at_ : ∀ id o l, H.get id = some o → c.μ id = some l → ∃ ob, w.heap[l.b]? = some ob ∧ OR P ok c l o ob
  apart : ∀ id id' o o' l l', H.get id = some o → H.get id' = some o' → excl o = true → id ≠ id' → c.μ id = some l → c.μ id' = some l' → l.b ≠ l'.b
  own : ∀ id o l, H.get id = some o → excl o = true → c.μ id = some l → c.Φ l.b = none
  dom : ∀ id l, c.μ id = some l → id < H.nx
  new : ∀ id o, H.get id = some o → id < H.nx
  glob : ∀ g, g < ng → c.μ g = some ⟨g, 0⟩
  based : ∀ id l, ng ≤ id → c.μ id = some l → c.base ≤ l.b
  bsz : c.base ≤ w.heap.size
  gown : ∀ id o, H.get id = some o → excl o = true → ng ≤ id

/-- Since w0: the streams are as they were. -/
structure Kp (w0 w : World) : Prop where
  os : w.os = w0.os
  tape : w.tape = w0.tape
  output : w.output = w0.output
  size : w0.heap.size ≤ w.heap.size
theorem Kp.trans {a b c : World} (h : Kp a b) (k : Kp b c) : Kp a c :=
  ⟨k.os.trans h.os, k.tape.trans h.tape, k.output.trans h.output, Nat.le_trans h.size k.size⟩
theorem Kp.refl (w : World) : Kp w w := ⟨rfl, rfl, rfl, Nat.le_refl _⟩

theorem DfRs.append {c : Ctx} : ∀ {a b : List Dfr} {x y : List Deferred}, DfRs c a x → DfRs c b y → DfRs c (a ++ b) (x ++ y)
  | [], b, x, y, h, k => by simp only [DfRs] at h; subst h; simpa using k
  | d :: ds, b, x, y, h, k => by
    simp only [DfRs] at h
    obtain ⟨z, zs, rfl, h1, h2⟩ := h
    simp only [List.cons_append, DfRs]
    exact ⟨z, zs ++ y, rfl, h1, DfRs.append h2 k⟩
theorem DfR.le {c c' : Ctx} (h : Le c c') {d : Dfr} {d' : Deferred} (e : DfR c d d') : DfR c' d d' := by
  obtain ⟨v, l⟩ := d
  cases v <;> simp only [DfR] at e ⊢ <;> try exact e
  · obtain ⟨k, h1, h2⟩ := e
    exact ⟨k, h.μ _ _ h1, h2⟩
  · obtain ⟨A, K, X, h1, h2, h3, h4⟩ := e
    exact ⟨A, K, X, Reps.le h _ _ h1, Reps.le h _ _ h2, Reps.le h _ _ h3, h4⟩
theorem DfRs.le {c c' : Ctx} (h : Le c c') : ∀ {a : List Dfr} {x : List Deferred}, DfRs c a x → DfRs c' a x
  | [], x, e => e
  | d :: ds, x, e => by
    simp only [DfRs] at e ⊢
    obtain ⟨z, zs, rfl, h1, h2⟩ := e
    exact ⟨z, zs, rfl, h1.le h, DfRs.le h h2⟩
theorem EnvR.le {c c' : Ctx} (h : Le c c') {X : Nat → Prop} {n : Nat} {env : Tr V} {tmps : Array Value} (e : EnvR c X n env tmps) : EnvR c' X n env tmps :=
  ⟨e.1, e.2.1, fun t v ht hn => by
    obtain ⟨y, h1, h2⟩ := e.2.2 t v ht hn
    exact ⟨y, h1, Rep.le h _ _ h2⟩⟩
theorem RepE.le {c c' : Ctx} (h : Le c c') : ∀ {a : List (V × V × Nat)} {x : List MapEntry}, RepE c a x → RepE c' a x
  | [], x, e => e
  | d :: ds, x, e => by
    simp only [RepE] at e ⊢
    obtain ⟨k, v, zs, rfl, h1, h2, h3⟩ := e
    exact ⟨k, v, zs, rfl, Rep.le h _ _ h1, Rep.le h _ _ h2, RepE.le h h3⟩
theorem LoopR.le {ok : FuncId → Code → Prop} {c c' : Ctx} (h : Le c c') {a : ALoop} {l : Loop} (e : LoopR ok c a l) : LoopR ok c' a l :=
  ⟨e.ready, e.done, e.pend, e.pok, e.fn, e.env.le h, e.params, e.assign, e.body, by
    obtain ⟨d, h1, h2⟩ := e.dfs
    exact ⟨d, h.μ _ _ h1, h2⟩⟩
theorem OR.le {P : Program} {ok : FuncId → Code → Prop} {c c' : Ctx} (h : Le c c') {l : Loc} : ∀ {o : AO} {ob : Obj}, OR P ok c l o ob → OR P ok c' l o ob
  | .cells _cs _e _rw, _ob, ⟨C, fz, h1, h2, h3⟩ => ⟨C, fz, h1, RepC.le h _ _ _ h2, h3⟩
  | .map _es _clk, _ob, ⟨es', h1, h2⟩ => ⟨es', h1, h2.le h⟩
  | .siter _s _pos, _ob, e => e
  | .miter none _since _seen _st, _ob, e => e
  | .miter (some _id) _since _seen _st, _ob, ⟨k, h1, h2⟩ => ⟨k, h.μ _ _ h1, h2⟩
  | .loop _a, _ob, ⟨r, h1, h2⟩ => ⟨r, h1, h2.le h⟩
  | .dfd _ds, _ob, ⟨ys, h1, h2⟩ => ⟨ys, h1, h2.le h⟩

/-! ### The heap behind a new block, a turned block, a block that has gone on -/
/-- The context with one id more. -/
def Ctx.up (c : Ctx) (id : Nat) (l : Loc) : Ctx := ⟨fun i => if i = id then some l else c.μ i, c.Φ, c.base⟩
theorem Ctx.up_same (c : Ctx) (id : Nat) (l : Loc) : (c.up id l).μ id = some l := by simp [Ctx.up]
theorem Ctx.up_ne (c : Ctx) {id j : Nat} (l : Loc) (h : j ≠ id) : (c.up id l).μ j = c.μ j := by simp [Ctx.up, h]
theorem Ctx.le_up {c : Ctx} {id : Nat} (l : Loc) (h : c.μ id = none) : Le c (c.up id l) :=
  ⟨fun j k e => by rw [Ctx.up_ne _ _ (fun hj => by rw [hj, h] at e; cases e), e], fun _ _ e => e, Nat.le_refl _⟩

section
variable {P : Program} {ok : FuncId → Code → Prop} {ng : Nat} {c : Ctx} {H : AH} {w : World}

theorem HR.fresh (h : HR P ok ng c H w) : c.μ H.nx = none := by
  cases e : c.μ H.nx with
  | none => rfl
  | some l => exact absurd (h.dom _ _ e) (Nat.lt_irrefl _)
theorem HR.ngle (h : HR P ok ng c H w) : ng ≤ H.nx := by
  rcases Nat.lt_or_ge H.nx ng with k | k
  · exact absurd (h.dom _ _ (h.glob _ k)) (Nat.lt_irrefl _)
  · exact k
theorem HR.lt (h : HR P ok ng c H w) {id : Nat} {o : AO} {l : Loc} (ho : H.get id = some o) (hl : c.μ id = some l) : l.b < w.heap.size := by
  obtain ⟨ob, hb, _⟩ := h.at_ _ _ _ ho hl
  exact (Array.getElem?_eq_some_iff.1 hb).1
theorem HR.Φlt (h : HR P ok ng c H w) {b : Nat} {ob : Obj} (k : c.Φ b = some ob) : b < w.heap.size := (Array.getElem?_eq_some_iff.1 (h.fro _ _ k)).1

/-- The world's blocks as they are matter alone. -/
theorem HR.world (h : HR P ok ng c H w) {w' : World} (hh : w'.heap = w.heap) : HR P ok ng c H w' :=
  ⟨by rw [hh]; exact h.fro, by rw [hh]; exact h.at_, h.apart, h.own, h.dom, h.new, h.glob, h.based, by rw [hh]; exact h.bsz, h.gown⟩

theorem alloc_old {w : World} {ob : Obj} {b : Nat} {x : Obj} (h : w.heap[b]? = some x) : (w.alloc ob).heap[b]? = some x := by
  have hlt := (Array.getElem?_eq_some_iff.1 h).1
  show (w.heap.push ob)[b]? = some x
  rw [Array.getElem?_push_lt hlt]
  rw [Array.getElem?_eq_getElem hlt] at h
  exact h
theorem alloc_new (w : World) (ob : Obj) : (w.alloc ob).heap[w.heap.size]? = some ob := by
  show (w.heap.push ob)[w.heap.size]? = some ob
  simp

/-- A block that the abstract heap has at an id without a place is made. -/
theorem HR.place (h : HR P ok ng c H w) {id : Nat} {o : AO} {ob : Obj} {cap : Nat} (hn : c.μ id = none) (hid : id < H.nx) (hg : H.get id = some o)
    (ho : OR P ok (c.up id ⟨w.heap.size, cap⟩) ⟨w.heap.size, cap⟩ o ob) : HR P ok ng (c.up id ⟨w.heap.size, cap⟩) H (w.alloc ob) := by
  have hle : Le c (c.up id ⟨w.heap.size, cap⟩) := Ctx.le_up _ hn
  have hold : ∀ j u l, j ≠ id → H.get j = some u → (c.up id ⟨w.heap.size, cap⟩).μ j = some l → c.μ j = some l ∧ l.b < w.heap.size := fun j u l hj hu hl => by
    rw [Ctx.up_ne _ _ hj] at hl
    exact ⟨hl, h.lt hu hl⟩
  refine ⟨fun b x hb => alloc_old (h.fro b x hb), fun j u l hu hl => ?_, fun j j' u u' l l' hu hu' he hj hl hl' => ?_, fun j u l hu he hl => ?_,
    fun j l hl => ?_, h.new, fun g hgg => ?_, fun j l hj hl => ?_, by simp only [World.size_alloc]; exact Nat.le_succ_of_le h.bsz, h.gown⟩
  · by_cases hj : j = id
    · subst hj
      rw [Ctx.up_same] at hl
      cases hl
      rw [hg] at hu
      cases hu
      exact ⟨ob, alloc_new w ob, ho⟩
    · obtain ⟨hl, _⟩ := hold j u l hj hu hl
      obtain ⟨x, h1, h2⟩ := h.at_ j u l hu hl
      exact ⟨x, alloc_old h1, h2.le hle⟩
  · by_cases hj1 : j = id
    · subst hj1
      rw [Ctx.up_same] at hl
      cases hl
      obtain ⟨_, hlt⟩ := hold j' u' l' (Ne.symm hj) hu' hl'
      exact fun e => by simp only at e; omega
    · obtain ⟨hl, hlt⟩ := hold j u l hj1 hu hl
      by_cases hj2 : j' = id
      · subst hj2
        rw [Ctx.up_same] at hl'
        cases hl'
        exact fun e => by simp only at e; omega
      · obtain ⟨hl', _⟩ := hold j' u' l' hj2 hu' hl'
        exact h.apart j j' u u' l l' hu hu' he hj hl hl'
  · by_cases hj : j = id
    · subst hj
      rw [Ctx.up_same] at hl
      cases hl
      show c.Φ w.heap.size = none
      cases e : c.Φ w.heap.size with
      | none => rfl
      | some x => exact absurd (h.Φlt e) (Nat.lt_irrefl _)
    · exact h.own j u l hu he (hold j u l hj hu hl).1
  · by_cases hj : j = id
    · subst hj; exact hid
    · rw [Ctx.up_ne _ _ hj] at hl
      exact h.dom j l hl
  · have := h.glob g hgg
    rw [Ctx.up_ne _ _ (fun e => by rw [e, hn] at this; cases this), this]
  · by_cases hj' : j = id
    · subst hj'
      rw [Ctx.up_same] at hl
      cases hl
      exact h.bsz
    · rw [Ctx.up_ne _ _ hj'] at hl
      exact h.based j l hj hl

/-- The abstract heap has a block more, which has no place yet. -/
theorem HR.pushed (h : HR P ok ng c H w) (o : AO) : HR P ok ng c (H.push o) w := by
  have hn := h.fresh
  have hne : ∀ {j l}, c.μ j = some l → j ≠ H.nx := fun {j l} e k => by rw [k, hn] at e; cases e
  have hget : ∀ {j u l}, (H.push o).get j = some u → c.μ j = some l → H.get j = some u := fun {j u l} hu hl => by
    rcases AH.get_push hu with ⟨e, _⟩ | ⟨_, e⟩
    · exact absurd e (hne hl)
    · exact e
  refine ⟨h.fro, fun j u l hu hl => h.at_ j u l (hget hu hl) hl, fun j j' u u' l l' hu hu' he hj hl hl' => h.apart j j' u u' l l' (hget hu hl) (hget hu' hl') he hj hl hl',
    fun j u l hu he hl => h.own j u l (hget hu hl) he hl, fun j l hl => Nat.lt_succ_of_lt (h.dom j l hl), fun j u hu => ?_, h.glob, h.based, h.bsz, fun j u hu he => ?_⟩
  · rcases AH.get_push hu with ⟨e, _⟩ | ⟨_, e⟩
    · subst e; exact Nat.lt_succ_self _
    · exact Nat.lt_succ_of_lt (h.new j u e)
  · rcases AH.get_push hu with ⟨e, _⟩ | ⟨_, e⟩
    · subst e; exact h.ngle
    · exact h.gown j u e he
/-- A new block. -/
theorem HR.push (h : HR P ok ng c H w) {o : AO} {ob : Obj} {cap : Nat} (ho : OR P ok (c.up H.nx ⟨w.heap.size, cap⟩) ⟨w.heap.size, cap⟩ o ob) :
    HR P ok ng (c.up H.nx ⟨w.heap.size, cap⟩) (H.push o) (w.alloc ob) := by
  by_cases hg : (H.push o).get H.nx = some o
  · exact (h.pushed o).place h.fresh (Nat.lt_succ_self _) hg ho
  · -- the trie did not take it: the id holds nothing
    have hnone : ∀ u, (H.push o).get H.nx ≠ some u := fun u hu => by
      rcases AH.get_push hu with ⟨_, e⟩ | ⟨e, _⟩
      · subst e; exact hg hu
      · exact e rfl
    have hp := h.pushed o
    have hle : Le c (c.up H.nx ⟨w.heap.size, cap⟩) := Ctx.le_up _ h.fresh
    have hold : ∀ j u l, (H.push o).get j = some u → (c.up H.nx ⟨w.heap.size, cap⟩).μ j = some l → c.μ j = some l := fun j u l hu hl => by
      by_cases hj : j = H.nx
      · subst hj; exact absurd hu (hnone u)
      · rwa [Ctx.up_ne _ _ hj] at hl
    refine ⟨fun b x hb => alloc_old (h.fro b x hb), fun j u l hu hl => ?_, fun j j' u u' l l' hu hu' he hj hl hl' => hp.apart j j' u u' l l' hu hu' he hj (hold j u l hu hl) (hold j' u' l' hu' hl'),
      fun j u l hu he hl => hp.own j u l hu he (hold j u l hu hl), fun j l hl => ?_, hp.new, fun g hgg => ?_, fun j l hj hl => ?_, by simp only [World.size_alloc]; exact Nat.le_succ_of_le h.bsz, hp.gown⟩
    · obtain ⟨x, h1, h2⟩ := hp.at_ j u l hu (hold j u l hu hl)
      exact ⟨x, alloc_old h1, h2.le hle⟩
    · by_cases hj : j = H.nx
      · subst hj; exact Nat.lt_succ_self _
      · rw [Ctx.up_ne _ _ hj] at hl
        exact hp.dom j l hl
    · have := h.glob g hgg
      rw [Ctx.up_ne _ _ (fun e => by rw [e, h.fresh] at this; cases this), this]
    · by_cases hj' : j = H.nx
      · subst hj'
        rw [Ctx.up_same] at hl
        cases hl
        exact h.bsz
      · rw [Ctx.up_ne _ _ hj'] at hl
        exact h.based j l hj hl

/-- A block of one's own is turned. -/
theorem HR.turn (h : HR P ok ng c H w) {id : Nat} {o o' : AO} {ob : Obj} {l : Loc} {w' : World} (hg : H.get id = some o) (he : excl o = true) (hl : c.μ id = some l)
    (hw : w'.heap = w.heap.setIfInBounds l.b ob) (ho : OR P ok c l o' ob) : HR P ok ng c (H.set id o') w' := by
  have hlt := h.lt hg hl
  have hoth : ∀ {b x}, b ≠ l.b → w.heap[b]? = some x → w'.heap[b]? = some x := fun {b x} hb hx => by
    rw [hw, Array.getElem?_setIfInBounds_ne (Ne.symm hb)]; exact hx
  have hget : ∀ {j u}, (H.set id o').get j = some u → j ≠ id → H.get j = some u := fun {j u} hu hj => by
    rcases AH.get_set hu with ⟨e, _⟩ | ⟨_, e⟩
    · exact absurd e hj
    · exact e
  have hne : ∀ {b x}, c.Φ b = some x → b ≠ l.b := fun {b x} hb k => by rw [k, h.own id o l hg he hl] at hb; cases hb
  refine ⟨fun b x hb => hoth (hne hb) (h.fro b x hb), fun j u k hu hk => ?_, fun j j' u u' k k' hu hu' hx hj hk hk' => ?_, fun j u k hu hx hk => ?_,
    h.dom, fun j u hu => ?_, h.glob, h.based, by rw [hw, Array.size_setIfInBounds]; exact h.bsz, fun j u hu hx => ?_⟩
  · by_cases hj : j = id
    · subst hj
      rw [hl] at hk
      cases hk
      rcases AH.get_set hu with ⟨_, e⟩ | ⟨e, _⟩
      · subst e
        exact ⟨ob, by rw [hw]; simp [hlt], ho⟩
      · exact absurd rfl e
    · obtain ⟨x, h1, h2⟩ := h.at_ j u k (hget hu hj) hk
      exact ⟨x, hoth (fun e => h.apart id j o u l k hg (hget hu hj) he (Ne.symm hj) hl hk e.symm) h1, h2⟩
  · by_cases hj1 : j = id
    · subst hj1
      rw [hl] at hk
      cases hk
      exact h.apart j j' o u' l k' hg (hget hu' (Ne.symm hj)) he hj hl hk'
    · by_cases hj2 : j' = id
      · subst hj2
        rw [hl] at hk'
        cases hk'
        exact fun e => h.apart j' j o u l k hg (hget hu hj1) he (Ne.symm hj1) hl hk e.symm
      · exact h.apart j j' u u' k k' (hget hu hj1) (hget hu' hj2) hx hj hk hk'
  · by_cases hj : j = id
    · subst hj
      rw [hl] at hk
      cases hk
      exact h.own j o l hg he hl
    · exact h.own j u k (hget hu hj) hx hk
  · by_cases hj : j = id
    · subst hj; exact h.new j o hg
    · exact h.new j u (hget hu hj)
  · by_cases hj : j = id
    · subst hj; exact h.gown j o hg he
    · exact h.gown j u (hget hu hj) hx
/-- A block that is not one's own any more: the same cells, but for its frozen bytes. -/
theorem HR.del (h : HR P ok ng c H w) (id : Nat) : HR P ok ng c (H.del id) w :=
  ⟨h.fro, fun j u l hu hl => h.at_ j u l (AH.get_del hu).2 hl, fun j j' u u' l l' hu hu' => h.apart j j' u u' l l' (AH.get_del hu).2 (AH.get_del hu').2,
    fun j u l hu => h.own j u l (AH.get_del hu).2, h.dom, fun j u hu => h.new j u (AH.get_del hu).2, h.glob, h.based, h.bsz, fun j u hu => h.gown j u (AH.get_del hu).2⟩
end
end Go.Proofs.YtbkipanlicgooaaGreatDoor
namespace Go.Proofs.YtbkipanlicgooaaGreatDoor

/-! ### What the tables must hold -/
def aggD : TypeDesc → Bool
  | .struct _ | .array _ _ => true
  | _ => false
def TkOk (P : Program) : TypeDesc → TK → Prop
  | .bool, .bool => True
  | .string, .str => True
  | .int k, .int k' => k' = k
  | .struct fs, .struct l => l = fs.toList.map (fun f => (f.offset, P.cellsOf f.type, f.type)) ∧ ∀ f ∈ fs.toList, (P.info? f.type).isSome = true
  | .array n e, .array n' e' sz => n' = n ∧ e' = e ∧ sz = P.cellsOf e ∧ (P.info? e).isSome = true
  | .slice e, .slice e' sz => e' = e ∧ sz = P.cellsOf e ∧ (P.info? e).isSome = true
  | .pointer e, .ptr e' => e' = e ∧ (P.info? e).isSome = true
  | .map k v, .map k' v' => k' = k ∧ v' = v
  | .interface _, .iface => True
  | .unsafePointer, .uptr => True
  | .func _ _ _, .func => True
  | .interface _, .none => False
  | .int _, .none => False
  | _, .none => True
  | _, _ => False
/-- == upon a type is the sameness of its cells. -/
structure EqOk (P : Program) (t : TypeId) (z : List V) : Prop where
  eq : ∀ (c : Ctx) (xs ys : List V) (A B : Array Value) (r : Bool) (w : World), sameCells xs ys = some r → kindL z xs = true → Reps c xs A.toList → Reps c ys B.toList →
    (Op.equalIn 10000 t (.agg A) (.agg B)).run P w = .ok r w
  guard : P.eqGuardType P.depth t = false
  key : ∀ (c : Ctx) (xs : List V) (A : Array Value) (e : Bool) (w : World), kindL z xs = true → Reps c xs A.toList → (Instr.checkKey e 10000 t (.agg A)).run P w = .ok () w
structure TyOk (P : Program) (t : TypeId) (ti : TI) : Prop where
  info : ∃ i, P.info? t = some i ∧ i.size = ti.size ∧ i.bytes = ti.bytes ∧ ∃ z, i.zero = some z ∧ (∀ c, Reps c ti.zero z.cells.toList) ∧ ∀ c, Rep c ti.zeroV z
  und : ∃ d, P.underlying t = some d ∧ TkOk P d ti.k ∧ aggD d = ti.agg
  eq : ti.eqf = true → EqOk P t ti.zero

section ty
variable {P : Program} {t : TypeId} {ti : TI}
theorem TyOk.size (h : TyOk P t ti) (w : World) : (sizeOf t).run P w = .ok ti.size w := by
  obtain ⟨i, hi, hs, _⟩ := h.info
  simp [sizeOf, typeInfo, hi, hs]
theorem TyOk.cells (h : TyOk P t ti) : P.cellsOf t = ti.size := by
  obtain ⟨i, hi, hs, _⟩ := h.info
  simp [Program.cellsOf, hi, hs]
theorem TyOk.agg (h : TyOk P t ti) (w : World) : (isAgg t).run P w = .ok ti.agg w := by
  obtain ⟨d, hd, _, ha⟩ := h.und
  unfold isAgg
  simp only [Sem.run_bind, run_underlying hd, Result.andThen_ok]
  rw [← ha]
  cases d <;> rfl
theorem TyOk.zeroRun (h : TyOk P t ti) (w : World) : ∃ z, (zeroValue t).run P w = .ok z w ∧ (∀ c, Reps c ti.zero z.cells.toList) ∧ ∀ c, Rep c ti.zeroV z := by
  obtain ⟨i, hi, hs, hb, z, hz, h1, h2⟩ := h.info
  exact ⟨z, by simp [zeroValue, typeInfo, hi, hz], h1, h2⟩
theorem cellsOf_run {P : Program} {t : TypeId} (h : (P.info? t).isSome = true) (w : World) : (sizeOf t).run P w = .ok (P.cellsOf t) w := by
  obtain ⟨i, hi⟩ := Option.isSome_iff_exists.1 h
  simp [sizeOf, typeInfo, hi, Program.cellsOf]
theorem TkOk.slice {d : TypeDesc} {e : TypeId} {sz : Nat} (h : TkOk P d (.slice e sz)) : d = .slice e ∧ sz = P.cellsOf e ∧ (P.info? e).isSome = true := by
  cases d <;> simp only [TkOk] at h
  obtain ⟨rfl, h1, h2⟩ := h
  exact ⟨rfl, h1, h2⟩
theorem TkOk.array {d : TypeDesc} {e : TypeId} {n sz : Nat} (h : TkOk P d (.array n e sz)) : d = .array n e ∧ sz = P.cellsOf e ∧ (P.info? e).isSome = true := by
  cases d <;> simp only [TkOk] at h
  obtain ⟨rfl, rfl, h1, h2⟩ := h
  exact ⟨rfl, h1, h2⟩
theorem TkOk.ptr {d : TypeDesc} {e : TypeId} (h : TkOk P d (.ptr e)) : d = .pointer e ∧ (P.info? e).isSome = true := by
  cases d <;> simp only [TkOk] at h
  obtain ⟨rfl, h2⟩ := h
  exact ⟨rfl, h2⟩
theorem TkOk.map {d : TypeDesc} {k v : TypeId} (h : TkOk P d (.map k v)) : d = .map k v := by
  cases d <;> simp only [TkOk] at h
  obtain ⟨rfl, rfl⟩ := h
  rfl
theorem TkOk.str {d : TypeDesc} (h : TkOk P d .str) : d = .string := by cases d <;> simp only [TkOk] at h; rfl
theorem TkOk.bool {d : TypeDesc} (h : TkOk P d .bool) : d = .bool := by cases d <;> simp only [TkOk] at h; rfl
theorem TkOk.uptr {d : TypeDesc} (h : TkOk P d .uptr) : d = .unsafePointer := by cases d <;> simp only [TkOk] at h; rfl
theorem TkOk.int {d : TypeDesc} {k : IntKind} (h : TkOk P d (.int k)) : d = .int k := by cases d <;> simp only [TkOk] at h; subst h; rfl
theorem TkOk.func {d : TypeDesc} (h : TkOk P d .func) : ∃ a b v, d = .func a b v := by cases d <;> simp only [TkOk] at h; exact ⟨_, _, _, rfl⟩
theorem TkOk.iface {d : TypeDesc} (h : TkOk P d .iface) : ∃ m, d = .interface m := by cases d <;> simp only [TkOk] at h; exact ⟨_, rfl⟩
theorem TkOk.struct {d : TypeDesc} {l : List (Nat × Nat × TypeId)} (h : TkOk P d (.struct l)) :
    ∃ fs, d = .struct fs ∧ l = fs.toList.map (fun f => (f.offset, P.cellsOf f.type, f.type)) ∧ ∀ f ∈ fs.toList, (P.info? f.type).isSome = true := by
  cases d <;> simp only [TkOk] at h
  exact ⟨_, rfl, h.1, h.2⟩
theorem nthF_map (g : Field → Nat × Nat × TypeId) : ∀ (l : List Field) (n : Nat) (x : Nat × Nat × TypeId), nthF (l.map g) n = some x → ∃ f, l[n]? = some f ∧ g f = x
  | [], n, x, h => by simp [nthF] at h
  | f :: l, 0, x, h => by simp only [List.map_cons, nthF, Option.some.injEq] at h; exact ⟨f, rfl, h⟩
  | f :: l, n + 1, x, h => by
    simp only [List.map_cons, nthF] at h
    obtain ⟨f, h1, h2⟩ := nthF_map g l n x h
    exact ⟨f, by simpa using h1, h2⟩
end ty

/-! ### Values of one cell -/
theorem Rep.cells {c : Ctx} {v : V} {y : Value} (h : Rep c v y) : Reps c v.cells y.cells.toList := by
  cases v with
  | agg l =>
    simp only [Rep] at h
    obtain ⟨A, rfl, h⟩ := h
    exact h
  | tup l =>
    have h' := h
    simp only [Rep] at h
    obtain ⟨A, rfl, _⟩ := h
    exact Reps.cons'.2 ⟨h', Reps.nil.2 rfl⟩
  | _ =>
    have h' := h
    simp only [Rep] at h
    refine Reps.cons.2 ⟨y, [], ?_, h', Reps.nil.2 rfl⟩
    first
      | (subst h; rfl)
      | (obtain ⟨_, rfl⟩ := h; rfl)
      | (obtain ⟨_, _, rfl⟩ := h; rfl)
      | (obtain ⟨_, _, _, rfl⟩ := h; rfl)
      | (obtain ⟨_, rfl, _⟩ := h; rfl)
      | (obtain ⟨_, _, rfl, _⟩ := h; rfl)
      | (obtain ⟨_, _, _, rfl, _⟩ := h; rfl)
      | (obtain ⟨_, _, _, _, _, rfl, _⟩ := h; rfl)
      | (obtain ⟨_, _, _, _, _, _, rfl, _⟩ := h; rfl)
theorem Rep.one {c : Ctx} {v : V} {y : Value} (h : Rep c v y) (hv : v.isCell = true) : y.oneCell' = true := by
  cases v with
  | agg l => cases hv
  | tup l => cases hv
  | _ =>
    simp only [Rep] at h
    first
      | (subst h; rfl)
      | (obtain ⟨_, rfl⟩ := h; rfl)
      | (obtain ⟨_, _, rfl⟩ := h; rfl)
      | (obtain ⟨_, _, _, rfl⟩ := h; rfl)
      | (obtain ⟨_, rfl, _⟩ := h; rfl)
      | (obtain ⟨_, _, rfl, _⟩ := h; rfl)
      | (obtain ⟨_, _, _, rfl, _⟩ := h; rfl)
      | (obtain ⟨_, _, _, _, _, rfl, _⟩ := h; rfl)
      | (obtain ⟨_, _, _, _, _, _, rfl, _⟩ := h; rfl)
theorem Reps.one {c : Ctx} : ∀ {l : List V} {ys : List Value}, Reps c l ys → allCell l = true → ∀ y ∈ ys, y.oneCell' = true
  | [], ys, h, e, y, hy => by rw [Reps.nil] at h; subst h; cases hy
  | v :: vs, ys, h, e, y, hy => by
    obtain ⟨z, zs, rfl, h1, h2⟩ := Reps.cons.1 h
    simp only [allCell, Bool.and_eq_true] at e
    cases hy with
    | head => exact h1.one e.1
    | tail _ hm => exact h2.one e.2 y hm

/-! ### Cells written -/
theorem RepC.congr {c : Ctx} : ∀ {l : List V} {C C' : Array Value} {o : Nat}, RepC c l C o → (∀ j, o ≤ j → j < o + l.length → C'[j]? = C[j]?) → RepC c l C' o
  | [], _, _, _, _, _ => by simp only [RepC]
  | v :: vs, C, C', o, h, e => by
    simp only [RepC] at h ⊢
    obtain ⟨y, h1, h2, h3⟩ := h
    exact ⟨y, by rw [e o (Nat.le_refl _) (by simp)]; exact h1, h2, h3.congr fun j hj hl => e j (by omega) (by simp only [List.length_cons]; omega)⟩
theorem over_len : ∀ {r l x : List V}, over r l = some x → r.length ≤ l.length ∧ x.length = l.length
  | [], l, x, h => by simp only [over, Option.some.injEq] at h; subst h; simp
  | _ :: _, [], x, h => by simp [over] at h
  | v :: r, u :: l, x, h => by
    simp only [over] at h
    split at h
    · rename_i y hy
      cases h
      have := over_len hy
      simp only [List.length_cons]
      omega
    · cases h
theorem splice_len : ∀ {l : List V} {off : Nat} {r x : List V}, splice l off r = some x → off + r.length ≤ l.length ∧ x.length = l.length
  | l, 0, r, x, h => by
    have h' : over r l = some x := by cases l <;> simpa only [splice] using h
    simpa using over_len h'
  | v :: l, off + 1, r, x, h => by
    simp only [splice] at h
    split at h
    · rename_i y hy
      cases h
      have := splice_len hy
      simp only [List.length_cons]
      omega
    · cases h
  | [], off + 1, r, x, h => by simp [splice] at h
theorem RepC.over {c : Ctx} : ∀ {r l x : List V} {C C' : Array Value} {o : Nat} {ys : List Value}, RepC c l C o → YtbkipanlicgooaaGreatDoor.over r l = some x → Reps c r ys →
    (∀ j y, ys[j]? = some y → C'[o + j]? = some y) → (∀ j, o + r.length ≤ j → C'[j]? = C[j]?) → RepC c x C' o
  | [], l, x, C, C', o, ys, h, e, hr, h1, h2 => by
    simp only [YtbkipanlicgooaaGreatDoor.over, Option.some.injEq] at e
    subst e
    exact h.congr fun j hj _ => h2 j (by simpa using hj)
  | _ :: _, [], x, C, C', o, ys, h, e, hr, h1, h2 => by simp [YtbkipanlicgooaaGreatDoor.over] at e
  | v :: r, u :: l, x, C, C', o, ys, h, e, hr, h1, h2 => by
    simp only [YtbkipanlicgooaaGreatDoor.over] at e
    split at e
    · rename_i x' hx
      cases e
      obtain ⟨z, zs, rfl, k1, k2⟩ := Reps.cons.1 hr
      simp only [RepC] at h ⊢
      obtain ⟨_, _, _, h3⟩ := h
      refine ⟨z, by simpa using h1 0 z rfl, k1, RepC.over h3 hx k2 (fun j y hj => ?_) (fun j hj => h2 j (by simp only [List.length_cons]; omega))⟩
      rw [← h1 (j + 1) y (by simpa using hj)]; congr 1; omega
    · cases e
theorem RepC.splice {c : Ctx} : ∀ {l : List V} {off : Nat} {r x : List V} {C C' : Array Value} {o : Nat} {ys : List Value}, RepC c l C o → YtbkipanlicgooaaGreatDoor.splice l off r = some x → Reps c r ys →
    (∀ j y, ys[j]? = some y → C'[o + off + j]? = some y) → (∀ j, j < o + off ∨ o + off + r.length ≤ j → C'[j]? = C[j]?) → RepC c x C' o
  | l, 0, r, x, C, C', o, ys, h, e, hr, h1, h2 => by
    have e' : YtbkipanlicgooaaGreatDoor.over r l = some x := by cases l <;> simpa only [YtbkipanlicgooaaGreatDoor.splice] using e
    exact RepC.over h e' hr (by simpa using h1) (fun j hj => h2 j (.inr (by simpa using hj)))
  | v :: l, off + 1, r, x, C, C', o, ys, h, e, hr, h1, h2 => by
    simp only [YtbkipanlicgooaaGreatDoor.splice] at e
    split at e
    · rename_i x' hx
      cases e
      simp only [RepC] at h ⊢
      obtain ⟨y, k1, k2, k3⟩ := h
      refine ⟨y, by rw [h2 o (.inl (by omega))]; exact k1, k2, RepC.splice k3 hx hr (fun j z hj => ?_) (fun j hj => h2 j (by omega))⟩
      rw [← h1 j z hj]; congr 1; omega
    · cases e
  | [], off + 1, r, x, C, C', o, ys, h, e, hr, h1, h2 => by simp [YtbkipanlicgooaaGreatDoor.splice] at e

/-- The cells C with ys laid over it from o on. -/
def laid (C : Array Value) (o : Nat) (ys : List Value) : Array Value := (C.toList.take o ++ ys ++ C.toList.drop (o + ys.length)).toArray
theorem laid_in {C : Array Value} {o : Nat} {ys : List Value} (h : o + ys.length ≤ C.size) {j : Nat} {y : Value} (hj : ys[j]? = some y) : (laid C o ys)[o + j]? = some y := by
  have hl : j < ys.length := (List.getElem?_eq_some_iff.1 hj).1
  have ho : (C.toList.take o).length = o := by simp; omega
  simp only [laid, List.getElem?_toArray, List.append_assoc]
  rw [List.getElem?_append_right (by omega), ho, Nat.add_sub_cancel_left, List.getElem?_append_left hl]
  exact hj
theorem laid_out {C : Array Value} {o : Nat} {ys : List Value} (h : o + ys.length ≤ C.size) {j : Nat} (hj : j < o ∨ o + ys.length ≤ j) : (laid C o ys)[j]? = C[j]? := by
  have ho : (C.toList.take o).length = o := by simp; omega
  simp only [laid, List.getElem?_toArray, List.append_assoc]
  rcases hj with hj | hj
  · rw [List.getElem?_append_left (by omega)]
    simp [hj]
  · rw [List.getElem?_append_right (by omega), List.getElem?_append_right (by omega), ho, List.getElem?_drop]
    simp only [Array.getElem?_toList]
    congr 1
    omega
theorem laid_size {C : Array Value} {o : Nat} {ys : List Value} (h : o + ys.length ≤ C.size) : (laid C o ys).size = C.size := by
  simp only [laid, List.size_toArray, List.length_append, List.length_take, List.length_drop, Array.length_toList]
  omega
theorem setRow_eq {w : World} {g : Nat} {C C' : Array Value} {t : TypeId} {fz : Nat × Nat} (h : w.heap[g]? = some (.cells C t fz)) : (w.setRow g C').heap = w.heap.setIfInBounds g (.cells C' t fz) := by
  have hlt : g < w.heap.size := (Array.getElem?_eq_some_iff.1 h).1
  have hv : w.heap[g] = .cells C t fz := (Array.getElem?_eq_some_iff.1 h).2
  apply Array.ext
  · simp [World.setRow]
  · intro k h1 h2
    rw [Array.getElem_setIfInBounds]
    simp only [World.setRow, Array.getElem_modify]
    split
    · rename_i hk
      subst hk
      rw [hv]
    · rfl
theorem run_stores {P : Program} {w : World} {g o : Nat} {C : Array Value} {t : TypeId} {ys : List Value} (h : w.heap[g]? = some (.cells C t (0, 0))) (hl : o + ys.length ≤ C.size)
    (h1 : ∀ y ∈ ys, y.oneCell' = true) : ∃ w', (storeCells ⟨g, o, none⟩ ys).run P w = .ok () w' ∧ w'.heap = w.heap.setIfInBounds g (.cells (laid C o ys) t (0, 0)) ∧
      w'.os = w.os ∧ w'.tape = w.tape ∧ w'.output = w.output := by
  refine ⟨_, run_storeCells_at (P := P) g o t ys 0 C w h (by simpa using hl) h1, ?_, rfl, rfl, rfl⟩
  rw [setRow_eq h]
  simp [laid]

/-! ### Reads -/
theorem cell_of {w : World} {b j : Nat} {C : Array Value} {t : TypeId} {fz : Nat × Nat} {y : Value} (h : w.heap[b]? = some (.cells C t fz)) (hj : C[j]? = some y) : w.cell? ⟨b, j, none⟩ = some y := by
  simp [World.cell?, h, hj]
theorem add_at (b o n : Nat) : (⟨b, o, none⟩ : Addr).add n = ⟨b, o + n, none⟩ := by unfold Addr.add; split <;> simp_all
theorem run_loads {P : Program} {w : World} {b o n : Nat} {C : Array Value} {t : TypeId} {fz : Nat × Nat} {ys : List Value} (h : w.heap[b]? = some (.cells C t fz)) (hn : ys.length = n)
    (hy : ∀ j y, ys[j]? = some y → C[o + j]? = some y) : (loadCells ⟨b, o, none⟩ n).run P w = .ok ys.toArray w := by
  subst hn
  exact run_loadCells_list w _ ys fun j v hj => by rw [add_at]; exact cell_of h (hy j v hj)
section
variable {P : Program} {c : Ctx} {w : World} {t : TypeId} {ti : TI}
theorem load_ok {b o off : Nat} {cs : List V} {C : Array Value} {e : TypeId} {fz : Nat × Nat} {v : V} (ht : TyOk P t ti) (hb : w.heap[b]? = some (.cells C e fz)) (hr : RepC c cs C o)
    (hv : partOf ti cs off = some v) : ∃ y, (loadVar t ⟨b, o + off, none⟩).run P w = .ok y w ∧ Rep c v y := by
  unfold loadVar
  simp only [Sem.run_bind, ht.agg, Result.andThen_ok]
  unfold partOf at hv
  cases ha : ti.agg <;> simp only [ha] at hv ⊢
  · obtain ⟨y, h1, h2⟩ := hr.at1 hv
    refine ⟨y, ?_, h2⟩
    simp [cell_of hb h1]
  · split at hv
    · rename_i l hl
      cases hv
      obtain ⟨ys, h1, h2, h3⟩ := hr.cut hl
      refine ⟨.agg ys.toArray, ?_, ?_⟩
      · simp only [if_true, Sem.run_bind, ht.size, Result.andThen_ok, run_loads hb h2 h3, Sem.run_pure]
      · simp only [Rep]
        exact ⟨ys.toArray, rfl, h1⟩
    · cases hv
theorem extract_eq {A : Array Value} {off n : Nat} {ys : List Value} (hn : ys.length = n) (h : ∀ j y, ys[j]? = some y → A[off + j]? = some y) : A.extract off (off + n) = ys.toArray := by
  subst hn
  have hsz : off + ys.length ≤ A.size ∨ ys = [] := by
    cases hy : ys with
    | nil => exact .inr rfl
    | cons z zs =>
      left
      have hl : (z :: zs).length - 1 < ys.length := by rw [hy]; simp
      have := h ((z :: zs).length - 1) ys[(z :: zs).length - 1] (List.getElem?_eq_getElem hl)
      have := (Array.getElem?_eq_some_iff.1 this).1
      simp only [List.length_cons] at this ⊢
      omega
  apply Array.ext
  · rcases hsz with k | k
    · simp; omega
    · subst k; simp; omega
  · intro j h1 h2
    have hj : j < ys.length := by simpa using h2
    have := h j ys[j] (List.getElem?_eq_getElem hj)
    have := (Array.getElem?_eq_some_iff.1 this).2
    simp [this]
theorem part_ok {off : Nat} {cs : List V} {A : Array Value} {v : V} (ht : TyOk P t ti) (hr : Reps c cs A.toList) (hv : partOf ti cs off = some v) :
    ∃ y, (part t A off).run P w = .ok y w ∧ Rep c v y := by
  unfold part
  simp only [Sem.run_bind, ht.agg, Result.andThen_ok]
  unfold partOf at hv
  cases ha : ti.agg <;> simp only [ha] at hv ⊢
  · obtain ⟨y, h1, h2⟩ := hr.get hv
    rw [Array.getElem?_toList] at h1
    exact ⟨y, by simp [h1], h2⟩
  · split at hv
    · rename_i l hl
      cases hv
      obtain ⟨ys, h1, h2, h3⟩ := (RepC.of (o := 0) (C := A) hr (fun j y hj => by simpa using hj)).cut hl
      refine ⟨.agg ys.toArray, ?_, ?_⟩
      · simp only [if_true, Sem.run_bind, ht.size, Result.andThen_ok, Sem.run_pure]
        rw [extract_eq h2 fun j y hj => by simpa using h3 j y hj]
      · simp only [Rep]
        exact ⟨ys.toArray, rfl, h1⟩
    · cases hv
end

/-! ### Strings -/
theorem str_size (l : List Nat) : (str l).size = l.length := by simp [str, ByteArray.size]
theorem str_toList (l : List Nat) : (str l).toList = l.map UInt8.ofNat := by rw [ByteArray.toList_eq]; simp [str]
theorem u8_toNat {n : Nat} (h : n < 256) : (UInt8.ofNat n).toNat = n := by simp; omega
theorem u8_inj {a b : Nat} (ha : a < 256) (hb : b < 256) (h : UInt8.ofNat a = UInt8.ofNat b) : a = b := by
  rw [← u8_toNat ha, ← u8_toNat hb, h]
theorem sEq_iff : ∀ {x y : List Nat}, sEq x y = true ↔ x = y
  | [], [] => by simp [sEq]
  | [], _ :: _ => by simp [sEq]
  | _ :: _, [] => by simp [sEq]
  | a :: x, b :: y => by
    simp only [sEq]
    cases h : Nat.beq a b
    · have := Nat.ne_of_beq_eq_false h
      simp [this]
    · have := Nat.eq_of_beq_eq_true h
      subst this
      simp [sEq_iff (x := x)]
theorem str_inj {x y : List Nat} (hx : ∀ z ∈ x, z < 256) (hy : ∀ z ∈ y, z < 256) (h : x.map UInt8.ofNat = y.map UInt8.ofNat) : x = y := by
  induction x generalizing y with
  | nil => cases y with | nil => rfl | cons b y => simp at h
  | cons a x ih =>
    cases y with
    | nil => simp at h
    | cons b y =>
      simp only [List.map_cons, List.cons.injEq] at h
      rw [u8_inj (hx a (by simp)) (hy b (by simp)) h.1, ih (fun z hz => hx z (by simp [hz])) (fun z hz => hy z (by simp [hz])) h.2]
theorem str_beq {x y : List Nat} (hx : ∀ z ∈ x, z < 256) (hy : ∀ z ∈ y, z < 256) : ((str x).toList == (str y).toList) = sEq x y := by
  rw [str_toList, str_toList]
  cases h : sEq x y
  · simp only [beq_eq_false_iff_ne, ne_eq]
    intro e
    rw [str_inj hx hy e, sEq_iff.2 rfl] at h
    cases h
  · rw [sEq_iff] at h
    subst h
    simp
theorem str_less : ∀ {x y : List Nat}, (∀ z ∈ x, z < 256) → (∀ z ∈ y, z < 256) → Op.bytesLess (x.map UInt8.ofNat) (y.map UInt8.ofNat) = bLess x y
  | x, [], _, _ => by cases x <;> rfl
  | [], b :: y, _, _ => rfl
  | a :: x, b :: y, hx, hy => by
    have ha := hx a (by simp)
    have hb := hy b (by simp)
    simp only [List.map_cons, Op.bytesLess, bLess]
    rw [str_less (fun z hz => hx z (by simp [hz])) (fun z hz => hy z (by simp [hz]))]
    have h1 : decide (UInt8.ofNat a < UInt8.ofNat b) = decide (a < b) := by
      simp only [UInt8.lt_iff_toNat_lt, u8_toNat ha, u8_toNat hb]
    have h2 : (UInt8.ofNat a == UInt8.ofNat b) = Nat.beq a b := by
      cases h : Nat.beq a b
      · have := Nat.ne_of_beq_eq_false h
        simp only [beq_eq_false_iff_ne, ne_eq]
        exact fun e => this (u8_inj ha hb e)
      · have := Nat.eq_of_beq_eq_true h
        subst this
        simp
    rw [h1, h2]
theorem str_append (x y : List Nat) : str x ++ str y = str (x ++ y) := by
  simp only [str, ByteArray.mk_append_mk, List.map_append]
theorem byteAt_eq : ∀ (l : List Nat) (n : Nat), byteAt l n = l[n]?
  | [], n => by simp [byteAt]
  | c :: l, 0 => by simp [byteAt]
  | c :: l, n + 1 => by simp [byteAt, byteAt_eq l n]
theorem subS_eq : ∀ (l : List Nat) (k n : Nat), subS l k n = (l.drop k).take n
  | l, 0, n => by cases l <;> simp [subS]
  | c :: l, k + 1, n => by simp [subS, subS_eq l k n]
  | [], k + 1, n => by simp [subS]
theorem str_extract (l : List Nat) (k h : Nat) : (str l).extract k h = str (subS l k (h - k)) := by
  rw [subS_eq]
  apply ByteArray.ext
  simp only [str, ByteArray.data_extract]
  apply Array.toList_inj.1
  simp [List.map_take, List.map_drop]
end Go.Proofs.YtbkipanlicgooaaGreatDoor
namespace Go.Proofs.YtbkipanlicgooaaGreatDoor

structure TabOk (P : Program) (G : Glob) : Prop where
  ty : ∀ t ti, G.T.get t = some ti → TyOk P t ti
  lies : ∀ e o u, liesA (e, o, u) G.lies = true → ∀ n, o < n * P.cellsOf e → liesAt P P.depth e n o u 1 = true

section
variable {P : Program} {G : Glob} {ok : FuncId → Code → Prop} {c : Ctx} {H : AH} {w : World}

/-! ### Integers -/
theorem Rep.int {c : Ctx} {k : IntKind} {n : Int} {y : Value} (h : Rep c (.i k n) y) : y = .int k n := by simpa only [Rep] using h
theorem Rep.bool {c : Ctx} {b : Bool} {y : Value} (h : Rep c (.b b) y) : y = .bool b := by simpa only [Rep] using h
theorem rep_int (c : Ctx) (k : IntKind) (n : Int) : Rep c (.i k n) (.int k n) := by simp only [Rep]
theorem rep_bool (c : Ctx) (b : Bool) : Rep c (.b b) (.bool b) := by simp only [Rep]
theorem rep_str (c : Ctx) {l : List Nat} (h : ∀ z ∈ l, z < 256) : Rep c (.s l) (.string (str l)) := by
  simp only [Rep]
  exact ⟨h, trivial⟩

theorem aBin_ok {op : BinOp} {k : IntKind} {x y : Int} {v : V} {t : TypeId} (h : aBin op k x y = some v) (hs : op ≠ .shl) (hs' : op ≠ .shr) :
    ∃ z, (binOp op t (.int k x) (.int k y)).run P w = .ok z w ∧ Rep c v z := by
  unfold aBin at h
  cases op <;> simp only at h
  case add => cases h; exact ⟨_, by simp [binOp, Op.intArith, wr], rep_int ..⟩
  case sub => cases h; exact ⟨_, by simp [binOp, Op.intArith, wr], rep_int ..⟩
  case mul => cases h; exact ⟨_, by simp [binOp, Op.intArith, wr], rep_int ..⟩
  case quo =>
    split at h
    · cases h
    · rename_i hy
      cases h
      exact ⟨_, by simp [binOp, Op.intDiv, wr, of_decide_eq_false hy], rep_int ..⟩
  case rem =>
    split at h
    · cases h
    · rename_i hy
      cases h
      exact ⟨_, by simp [binOp, Op.intDiv, of_decide_eq_false hy], rep_int ..⟩
  case and => cases h; exact ⟨_, by simp [binOp, Op.intBits, wr, BitVec.toNat_and], rep_int ..⟩
  case or => cases h; exact ⟨_, by simp [binOp, Op.intBits, wr, BitVec.toNat_or], rep_int ..⟩
  case xor => cases h; exact ⟨_, by simp [binOp, Op.intBits, wr, BitVec.toNat_xor], rep_int ..⟩
  case eql => cases h; refine ⟨_, ?_, rep_bool ..⟩; simp [binOp, Op.intCmp, BEq.beq]
  case neq => cases h; refine ⟨_, ?_, rep_bool ..⟩; simp [binOp, Op.intCmp, bne, BEq.beq]
  case lss => cases h; refine ⟨_, ?_, rep_bool ..⟩; simp [binOp, Op.intCmp]
  case leq => cases h; refine ⟨_, ?_, rep_bool ..⟩; simp [binOp, Op.intCmp]
  case gtr => cases h; refine ⟨_, ?_, rep_bool ..⟩; simp [binOp, Op.intCmp]
  case geq => cases h; refine ⟨_, ?_, rep_bool ..⟩; simp [binOp, Op.intCmp]
  all_goals cases h
theorem aShift_ok {op : BinOp} {k k' : IntKind} {x y : Int} {v : V} {t : TypeId} (h : aShift op k x y = some v) :
    ∃ z, (binOp op t (.int k x) (.int k' y)).run P w = .ok z w ∧ Rep c v z := by
  unfold aShift at h
  split at h
  · cases h
  · rename_i hy
    have hy := of_decide_eq_false hy
    cases op <;> simp only at h <;> cases h
    · exact ⟨_, by simp [binOp, Op.shift, hy, wr], rep_int ..⟩
    · exact ⟨_, by simp [binOp, Op.shift, hy], rep_int ..⟩
theorem aStr_ok {op : BinOp} {x y : List Nat} {v : V} {t : TypeId} (h : aStr op x y = some v) (hx : ∀ z ∈ x, z < 256) (hy : ∀ z ∈ y, z < 256) :
    ∃ z, (binOp op t (.string (str x)) (.string (str y))).run P w = .ok z w ∧ Rep c v z := by
  have he := str_beq hx hy
  have hl : Op.bytesLess (str x).toList (str y).toList = bLess x y := by rw [str_toList, str_toList]; exact str_less hx hy
  unfold aStr at h
  cases op <;> simp only at h
  case add =>
    split at h
    · rename_i hn
      cases h
      have hn := of_decide_eq_true hn
      refine ⟨.string (str (x ++ y)), ?_, rep_str c fun z hz => ?_⟩
      · show (Op.stringOp .add (str x) (str y)).run P w = _
        rw [run_string_add_sum w (str x) (str y) (by rw [str_size, str_size]; omega), str_append]
      · rcases List.mem_append.1 hz with h | h
        · exact hx z h
        · exact hy z h
    · cases h
  case eql => cases h; refine ⟨_, ?_, rep_bool ..⟩; simp [binOp, Op.stringOp, he]
  case neq => cases h; refine ⟨_, ?_, rep_bool ..⟩; simp [binOp, Op.stringOp, he]
  case lss => cases h; refine ⟨_, ?_, rep_bool ..⟩; simp [binOp, Op.stringOp, hl]
  case leq => cases h; refine ⟨_, ?_, rep_bool ..⟩; simp [binOp, Op.stringOp, hl, he]
  case gtr => cases h; refine ⟨_, ?_, rep_bool ..⟩; simp [binOp, Op.stringOp, hl, he]
  case geq => cases h; refine ⟨_, ?_, rep_bool ..⟩; simp [binOp, Op.stringOp, hl]
  all_goals cases h

theorem eqI_p0 {t e : TypeId} (d : Nat) (hd : P.underlying t = some (.pointer e)) (b : Option Addr) : (Op.equalIn (d + 1) t (.pointer none) (.pointer b)).run P w = .ok b.isNone w := by
  simp [Op.equalIn, run_underlying hd]
theorem eqI_p1 {t e : TypeId} (d : Nat) (hd : P.underlying t = some (.pointer e)) (a : Addr) : (Op.equalIn (d + 1) t (.pointer (some a)) (.pointer none)).run P w = .ok false w := by
  simp [Op.equalIn, run_underlying hd]
theorem eqI_p2 {t e : TypeId} (d : Nat) (hd : P.underlying t = some (.pointer e)) (hi : (P.info? e).isSome = true) (hz : P.cellsOf e ≠ 0) (b o q : Nat) :
    (Op.equalIn (d + 1) t (.pointer (some ⟨b, o, none⟩)) (.pointer (some ⟨b, q, none⟩))).run P w = .ok (decide (o = q)) w := by
  simp only [Op.equalIn, Sem.run_bind, run_underlying hd, Result.andThen_ok, cellsOf_run hi]
  simp [hz, sameAddr, BEq.beq]
theorem eqI_s0 {t e : TypeId} (d : Nat) (hd : P.underlying t = some (.slice e)) (n k : Nat) (b : Option Addr) (m j : Nat) : (Op.equalIn (d + 1) t (.slice none n k) (.slice b m j)).run P w = .ok b.isNone w := by
  simp [Op.equalIn, run_underlying hd]
theorem eqI_s1 {t e : TypeId} (d : Nat) (hd : P.underlying t = some (.slice e)) (a : Addr) (n k m j : Nat) : (Op.equalIn (d + 1) t (.slice (some a) n k) (.slice none m j)).run P w = .ok false w := by
  simp [Op.equalIn, run_underlying hd]
theorem eqI_m0 {t k v : TypeId} (d : Nat) (hd : P.underlying t = some (.map k v)) (b : Option Nat) : (Op.equalIn (d + 1) t (.map none) (.map b)).run P w = .ok b.isNone w := by
  simp [Op.equalIn, run_underlying hd]
theorem eqI_m1 {t k v : TypeId} (d : Nat) (hd : P.underlying t = some (.map k v)) (b : Nat) : (Op.equalIn (d + 1) t (.map (some b)) (.map none)).run P w = .ok false w := by
  simp [Op.equalIn, run_underlying hd]
theorem eqI_f0 {t : TypeId} {a b : Array TypeId} {v : Bool} (d : Nat) (hd : P.underlying t = some (.func a b v)) : (Op.equalIn (d + 1) t .nilFunc .nilFunc).run P w = .ok true w := by
  simp [Op.equalIn, run_underlying hd]
theorem eqI_f1 {t : TypeId} {a b : Array TypeId} {v : Bool} (d : Nat) (hd : P.underlying t = some (.func a b v)) (f : Fn) (x y : Array Value) : (Op.equalIn (d + 1) t (.func f x y) .nilFunc).run P w = .ok false w := by
  simp [Op.equalIn, run_underlying hd]
theorem eqI_f2 {t : TypeId} {a b : Array TypeId} {v : Bool} (d : Nat) (hd : P.underlying t = some (.func a b v)) (f : Fn) (x y : Array Value) : (Op.equalIn (d + 1) t .nilFunc (.func f x y)).run P w = .ok false w := by
  simp [Op.equalIn, run_underlying hd]
theorem eqI_i0 {t : TypeId} {m : Array (String × TypeId)} (d : Nat) (hd : P.underlying t = some (.interface m)) : (Op.equalIn (d + 1) t .nilIface .nilIface).run P w = .ok true w := by
  simp [Op.equalIn, run_underlying hd]
theorem eqI_i1 {t u : TypeId} {m : Array (String × TypeId)} (d : Nat) (hd : P.underlying t = some (.interface m)) (z : Value) : (Op.equalIn (d + 1) t .nilIface (.iface u z)).run P w = .ok false w := by
  simp [Op.equalIn, run_underlying hd]
theorem eqI_i2 {t u : TypeId} {m : Array (String × TypeId)} (d : Nat) (hd : P.underlying t = some (.interface m)) (z : Value) : (Op.equalIn (d + 1) t (.iface u z) .nilIface).run P w = .ok false w := by
  simp [Op.equalIn, run_underlying hd]

theorem aEq_ok {t : TypeId} {ti : TI} {cst : Bool} {x y : V} {X Y : Value} {r : Bool} (hG : TabOk P G) (ht : TyOk P t ti) (h : aEq G ti cst x y = some r) (hx : Rep c x X) (hy : Rep c y Y) :
    (Op.equal t X Y).run P w = .ok r w ∧ ∀ (op : BinOp) (a b : Operand), (cst = true → isNilC a = true ∨ isNilC b = true) → (eqGuard op t a b X Y).run P w = .ok () w := by
  obtain ⟨d, hd, hk, ha⟩ := ht.und
  have noGuard : ∀ (op : BinOp) (a b : Operand), (∀ A B, ¬ (X = .agg A ∧ Y = .agg B)) → ¬ (X = .nilIface ∧ Y = .nilIface) → (eqGuard op t a b X Y).run P w = .ok () w := by
    intro op a b h1 h2
    unfold eqGuard
    cases X <;> cases Y <;> first | exact absurd ⟨rfl, rfl⟩ h2 | exact absurd ⟨rfl, rfl⟩ (h1 _ _) | (cases op <;> rfl)
  have guardNil : ∀ (op : BinOp) (a b : Operand), (isNilC a = true ∨ isNilC b = true) → (eqGuard op t a b .nilIface .nilIface).run P w = .ok () w := by
    intro op a b hab
    rcases hab with h | h
    · cases a with
      | const v => cases op <;> first | rfl | simp [eqGuard]
      | _ => simp [isNilC] at h
    · cases b with
      | const v => cases op <;> first | rfl | simp [eqGuard]
      | _ => simp [isNilC] at h
  unfold aEq at h
  cases hki : ti.k <;> simp only [hki] at h hk
  case bool =>
    have := hk.bool
    subst this
    split at h
    · cases h
      have := hx.bool
      have := hy.bool
      subst X Y
      exact ⟨run_equalIn_bool' w _ t _ _ hd, fun op a b _ => noGuard op a b (by simp) (by simp)⟩
    · cases h
  case ptr e =>
    obtain ⟨rfl, hi⟩ := hk.ptr
    split at h
    · cases h
      simp only [Rep] at hx hy
      subst X Y
      exact ⟨eqI_p0 9999 hd _, fun op a b _ => noGuard op a b (by simp) (by simp)⟩
    · cases h
      simp only [Rep] at hx hy
      obtain ⟨l, _, rfl⟩ := hy
      subst X
      exact ⟨eqI_p0 9999 hd _, fun op a b _ => noGuard op a b (by simp) (by simp)⟩
    · cases h
      simp only [Rep] at hx hy
      obtain ⟨l, _, rfl⟩ := hx
      subst Y
      exact ⟨eqI_p1 9999 hd _, fun op a b _ => noGuard op a b (by simp) (by simp)⟩
    · rename_i i o j q
      split at h
      · rename_i hc
        cases h
        simp only [Bool.and_eq_true, decide_eq_true_eq] at hc
        obtain ⟨rfl, hnz⟩ := hc
        simp only [Rep] at hx hy
        obtain ⟨l, h1, rfl⟩ := hx
        obtain ⟨l', h2, rfl⟩ := hy
        rw [h1] at h2
        cases h2
        have hsz : P.cellsOf e ≠ 0 := by
          unfold szNZ at hnz
          split at hnz
          · rename_i te hte
            have := Nat.ne_of_beq_eq_false (by simpa using hnz)
            rw [(hG.ty _ _ hte).cells]
            exact this
          · cases hnz
        exact ⟨eqI_p2 9999 hd hi hsz _ _ _, fun op a b _ => noGuard op a b (by simp) (by simp)⟩
      · cases h
    · cases h
  case slice e sz =>
    obtain ⟨rfl, _⟩ := hk.slice
    have r0 : ∀ {v : V} {Z : Value}, (match v with | .sl .. => true | .S .. => true | .se => true | _ => false) = true → Rep c v Z → ∃ a n k, Z = .slice (some a) n k := by
      intro v Z hv hz
      cases v <;> simp only [Bool.false_eq_true] at hv <;> simp only [Rep] at hz
      · obtain ⟨a, k, rfl⟩ := hz; exact ⟨_, _, _, rfl⟩
      · obtain ⟨l, _, _, rfl⟩ := hz; exact ⟨_, _, _, rfl⟩
      · obtain ⟨_, _, _, _, _, _, rfl, _⟩ := hz; exact ⟨_, _, _, rfl⟩
    have L : ∀ {v : V}, (match v with | .sl .. => true | .S .. => true | .se => true | _ => false) = true → Rep c .s0 X → Rep c v Y → (Op.equal t X Y).run P w = .ok false w ∧ (∀ (op : BinOp) (a b : Operand), (cst = true → isNilC a = true ∨ isNilC b = true) → (eqGuard op t a b X Y).run P w = .ok () w) := by
      intro v hv h1 h2
      obtain ⟨a, n, k, rfl⟩ := r0 hv h2
      simp only [Rep] at h1
      subst X
      exact ⟨eqI_s0 9999 hd _ _ _ _ _, fun op a b _ => noGuard op a b (by simp) (by simp)⟩
    have R : ∀ {v : V}, (match v with | .sl .. => true | .S .. => true | .se => true | _ => false) = true → Rep c v X → Rep c .s0 Y → (Op.equal t X Y).run P w = .ok false w ∧ (∀ (op : BinOp) (a b : Operand), (cst = true → isNilC a = true ∨ isNilC b = true) → (eqGuard op t a b X Y).run P w = .ok () w) := by
      intro v hv h1 h2
      obtain ⟨a, n, k, rfl⟩ := r0 hv h1
      simp only [Rep] at h2
      subst Y
      exact ⟨eqI_s1 9999 hd _ _ _ _ _, fun op a b _ => noGuard op a b (by simp) (by simp)⟩
    split at h
    · cases h
      simp only [Rep] at hx hy
      subst X Y
      exact ⟨eqI_s0 9999 hd _ _ _ _ _, fun op a b _ => noGuard op a b (by simp) (by simp)⟩
    · cases h; exact L rfl hx hy
    · cases h; exact R rfl hx hy
    · cases h; exact L rfl hx hy
    · cases h; exact R rfl hx hy
    · cases h; exact L rfl hx hy
    · cases h; exact R rfl hx hy
    · cases h
  case map k v =>
    have := hk.map
    subst this
    split at h
    · cases h
      simp only [Rep] at hx hy
      subst X Y
      exact ⟨eqI_m0 9999 hd _, fun op a b _ => noGuard op a b (by simp) (by simp)⟩
    · cases h
      simp only [Rep] at hx hy
      obtain ⟨_, _, rfl⟩ := hy
      subst X
      exact ⟨eqI_m0 9999 hd _, fun op a b _ => noGuard op a b (by simp) (by simp)⟩
    · cases h
      simp only [Rep] at hx hy
      obtain ⟨_, _, rfl⟩ := hx
      subst Y
      exact ⟨eqI_m1 9999 hd _, fun op a b _ => noGuard op a b (by simp) (by simp)⟩
    · cases h
  case func =>
    obtain ⟨_, _, _, rfl⟩ := hk.func
    split at h
    · cases h
      simp only [Rep] at hx hy
      subst X Y
      exact ⟨eqI_f0 9999 hd, fun op a b _ => noGuard op a b (by simp) (by simp)⟩
    · cases h
      simp only [Rep] at hx hy
      obtain ⟨_, _, rfl, _⟩ := hy
      subst X
      exact ⟨eqI_f2 9999 hd _ _ _, fun op a b _ => noGuard op a b (by simp) (by simp)⟩
    · cases h
      simp only [Rep] at hx hy
      obtain ⟨_, _, rfl, _⟩ := hx
      subst Y
      exact ⟨eqI_f1 9999 hd _ _ _, fun op a b _ => noGuard op a b (by simp) (by simp)⟩
    · cases h
  case iface =>
    obtain ⟨_, rfl⟩ := hk.iface
    split at h
    · split at h
      · cases h
        simp only [Rep] at hx hy
        subst X Y
        exact ⟨eqI_i0 9999 hd, fun op a b hab => guardNil op a b (hab rfl)⟩
      · cases h
    · cases h
      simp only [Rep] at hx hy
      obtain ⟨_, rfl, _⟩ := hy
      subst X
      exact ⟨eqI_i1 9999 hd _, fun op a b _ => noGuard op a b (by simp) (by simp)⟩
    · cases h
      simp only [Rep] at hx hy
      obtain ⟨_, rfl, _⟩ := hx
      subst Y
      exact ⟨eqI_i2 9999 hd _, fun op a b _ => noGuard op a b (by simp) (by simp)⟩
    · cases h
  all_goals
    split at h
    · split at h
      · rename_i hc
        simp only [Bool.and_eq_true] at hc
        obtain ⟨he, hn⟩ := hc
        have hE := ht.eq he
        simp only [Rep] at hx hy
        obtain ⟨A, rfl, hA⟩ := hx
        obtain ⟨B, rfl, hB⟩ := hy
        exact ⟨hE.eq c _ _ A B r w h hn hA hB, fun op a b _ => run_eqGuard_agg w op t a b A B hE.guard⟩
      · cases h
    · cases h
end
end Go.Proofs.YtbkipanlicgooaaGreatDoor
