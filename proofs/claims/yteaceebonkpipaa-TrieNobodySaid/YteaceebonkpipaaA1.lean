/- An evaluator of the model's code over values in which memory that nobody writes any more stands by value, and memory that may be written stands as rows with numbers: definitions only. -/
import Derived.Test.YteaceebonkpipaaA0
namespace Go.Abs

inductive SF where
  | nil | zc | any | bor
  deriving DecidableEq, Inhabited
/-- Is there memory? -/
def SF.mem : SF → Bool
  | .any | .bor => true
  | _ => false
/-- Is it not lent? -/
def SF.firm : SF → Bool
  | .bor => false
  | _ => true
/-- Where what stands by value is kept: memory that is but lent stands in the shadow. -/
def SF.spot : SF → Option Nat
  | .bor => some 0
  | _ => none

inductive AV where
  | junk
  | bool (b : Bool)
  | int (k : IntKind) (n : Int)
  | str (s : ByteArray)
  | nilp
  | ptr (id ver off : Nat)
  | fp (cs : List AV)
  | sl (id ver off len sz : Nat)
  | fs (sz : Nat) (xs : List AV) (fl : SF)
  | fn (f : Fn) (first captured : List AV)
  | yld (id : Nat)
  | nilf
  | mp (id : Nat)
  | nilm
  | iface (t : TypeId) (v : AV)
  | nili
  | agg (cs : List AV)
  | tup (vs : List AV)
  deriving Inhabited

namespace AV
def cells : AV → List AV
  | .agg cs => cs
  | v => [v]
def cell (v : AV) (j : Nat) : AV := v.cells.getD j .junk
def isInt : AV → IntKind → Bool
  | .int j _, k => j == k
  | _, _ => false
def toInt : AV → Int
  | .int _ n => n
  | _ => 0
def isBool : AV → Bool
  | .bool _ => true
  | _ => false
def toBool : AV → Bool
  | .bool b => b
  | _ => false
def isStr : AV → Bool
  | .str _ => true
  | _ => false
def toStr : AV → ByteArray
  | .str s => s
  | _ => ByteArray.empty
def isFs (sz : Nat) : AV → Bool
  | .fs s _ _ => s == sz
  | _ => false
def toFs : AV → List AV
  | .fs _ xs _ => xs
  | _ => []
def toFl : AV → SF
  | .fs _ _ fl => fl
  | _ => .nil
/-- May it stand in memory? -/
def solid : AV → Bool
  | .junk | .tup _ => false
  | _ => true
/-- One cell of memory holds it. -/
def one : AV → Bool
  | .junk | .tup _ | .agg _ => false
  | _ => true
end AV

mutual
/-- No number of a row stands in it. -/
def AV.closed : AV → Bool
  | .ptr _ _ _ | .sl _ _ _ _ _ | .yld _ | .mp _ => false
  | .fn _ a b => AV.closedL a && AV.closedL b
  | .iface _ v => v.closed
  | .agg cs => AV.closedL cs
  | .tup vs => AV.closedL vs
  | _ => true
def AV.closedL : List AV → Bool
  | [] => true
  | v :: r => v.closed && AV.closedL r
end

abbrev ATs := List (Nat × AV)
def ATs.get : ATs → Nat → AV
  | [], _ => .junk
  | (k, v) :: r, t => match k == t with
    | true => v
    | false => ATs.get r t
def ATs.put (ts : ATs) (d : Option Tmp) (v : AV) : ATs :=
  match d with
  | some d => (d, v) :: ts
  | none => ts
def ATs.trim (ts : ATs) : List Nat → ATs
  | [] => []
  | k :: r => (k, ts.get k) :: ATs.trim ts r

inductive AO where
  | cells (ver : Nat) (cs : List AV)
  | iter (s : ByteArray) (pos : Nat)
  | dead (ver : Nat)
  | loop (st : LoopState) (pending : Option Code) (nt : Nat) (ts : ATs) (key : Nat)
  | mp (es : List (AV × AV))
  deriving Inhabited

abbrev AH := List AO

inductive AEnd where
  | ret (v : AV)
  | pan (v : AV)
  deriving Inhabited

inductive AExit where
  | normal
  | exit (id : Nat)
  | ret
  | pan (v : AV)
  deriving Inhabited

abbrev Fin' := AEnd × AH
abbrev Res := Option Fin'

/-- What a cell of a type holds. -/
inductive CK where
  | int (k : IntKind)
  | bool
  | str
  | slice (sz : Nat)
  | other
  deriving Inhabited

structure TI where
  desc : TypeDesc
  size : Nat
  bytes : Nat
  zero : List AV
  eqOk : Bool
  cmp : Bool
  kinds : List CK
  deriving Inhabited

structure Env where
  types : List (Option TI)

def Env.ti (E : Env) (t : TypeId) : Option TI :=
  match E.types[t]? with
  | some x => x
  | none => none

abbrev KC := AExit → ATs → AH → Res
abbrev KE := AEnd → AH → Res

structure Ctx where
  E : Env
  call : FuncId → List AV → AH → KE → Res
  loop : Nat → Option (ATs → AH → KC → Res)
  rkey : Nat → Nat
  round : Nat → List AV → AH → KE → Res
  keep : Nat → Option (List Nat)
  live : FuncId → Bool
  calm : FuncId → Bool
  lend : FuncId → Bool
  ranges : Bool
  nt : Nat
  fuel : Nat
  self : Option Nat := none

def aIf (b : Bool) (x y : Res) : Res :=
  match b with
  | true => x
  | false => y

/-- Constants. -/
def ofVal1 : Value → AV
  | .bool b => .bool b
  | .int k n => .int k n
  | .string s => .str s
  | .pointer none => .nilp
  | .slice none 0 0 => .fs 0 [] .nil
  | .nilIface => .nili
  | .nilFunc => .nilf
  | .map none => .nilm
  | .func (.func f) ⟨[]⟩ ⟨[]⟩ => .fn (.func f) [] []
  | _ => .junk
def ofVal : Value → AV
  | .agg ⟨cs⟩ => match cs.all (fun c => (ofVal1 c).one) with
    | true => .agg (cs.map ofVal1)
    | false => .junk
  | v => ofVal1 v

def evalO (ts : ATs) : Operand → AV
  | .tmp t => ts.get t
  | .const v => ofVal v
  | .func f => .fn (.func f) [] []
  | .global g => .fp ((globInts g).map fun p => .int p.1 p.2)

def isAggD : TypeDesc → Bool
  | .struct _ => true
  | .array _ _ => true
  | _ => false

/-- Cells as one value of a type. -/
def asVal (i : TI) (cs : List AV) : AV :=
  match isAggD i.desc with
  | true => .agg cs
  | false => cs.getD 0 .junk

def writeCells (cs : List AV) (off : Nat) (vs : List AV) : List AV :=
  match vs with
  | [] => cs
  | [v] => cs.set off v
  | v :: w :: r => cs.take off ++ (v :: w :: r ++ cs.drop (off + (v :: w :: r).length))

def readCells (cs : List AV) : Nat → Nat → List AV
  | _, 0 => []
  | off, n + 1 => cs.getD off .junk :: readCells cs (off + 1) n

/-- A cell read out of a row that may be written. -/
def etaK (k : CK) (v : AV) (kk : AV → Res) : Res :=
  match k with
  | .int j => aIf (v.isInt j) (kk (.int j v.toInt)) none
  | .bool => aIf v.isBool (kk (.bool v.toBool)) none
  | .str => aIf v.isStr (kk (.str v.toStr)) none
  | _ => kk v
/-- A cell read out of memory that stands by value. -/
def etaFK (k : CK) (v : AV) (kk : AV → Res) : Res :=
  match k with
  | .slice sz => aIf (v.isFs sz) (kk (.fs sz v.toFs v.toFl)) none
  | k => etaK k v kk
def etasK (f : CK → AV → (AV → Res) → Res) : List CK → List AV → (List AV → Res) → Res
  | k :: ks, v :: vs, kk => f k v fun w => etasK f ks vs fun ws => kk (w :: ws)
  | [], [], kk => kk []
  | _, _, _ => none

def aFill (place : Nat → Option (Nat × Nat)) (cells : List AV) : List (Nat × AV) → Option (List AV)
  | [] => some cells
  | (i, v) :: rest =>
    match place i with
    | none => none
    | some (off, size) =>
      match v.solid && v.cells.length == size && decide (off + size ≤ cells.length) with
      | true => aFill place (writeCells cells off v.cells) rest
      | false => none

def fieldPlace' (E : Env) (fs : Array Field) (i : Nat) : Option (Nat × Nat) :=
  match fs[i]? with
  | some f => match E.ti f.type with
    | some j => some (f.offset, j.size)
    | none => none
  | none => none

def partOf (E : Env) (t : TypeId) (cs : List AV) (off : Nat) : Option AV :=
  match E.ti t with
  | none => none
  | some i => match decide (off + i.size ≤ cs.length) with
    | true => some (asVal i (readCells cs off i.size))
    | false => none

mutual
def aEq (E : Env) : Nat → TypeId → AV → AV → Option Bool
  | 0, _, _, _ => none
  | d + 1, t, x, y =>
    match E.ti t with
    | none => none
    | some i =>
      match i.desc, x, y with
      | .bool, .bool a, .bool b => some (a == b)
      | .int _, .int k a, .int k' b => match k == k' with
        | true => some (a == b)
        | false => none
      | .string, .str a, .str b => some (a == b)
      | .pointer _, .nilp, .nilp => some true
      | .pointer _, .nilp, .ptr _ _ _ | .pointer _, .ptr _ _ _, .nilp => some false
      | .pointer _, .nilp, .fp _ | .pointer _, .fp _, .nilp => some false
      | .interface _, .nili, .nili => some true
      | .interface _, .nili, .iface _ _ | .interface _, .iface _ _, .nili => some false
      | .interface _, .iface tx vx, .iface ty vy => match tx == ty with
        | false => some false
        | true => match E.ti tx with
          | none => none
          | some j => match j.cmp with
            | true => aEq E d tx vx vy
            | false => none
      | .struct fields, .agg xs, .agg ys => match i.eqOk with
        | true => aEqFields E d fields.toList xs ys
        | false => none
      | .array len elem, .agg xs, .agg ys => match E.ti elem with
        | none => none
        | some j => aEqElems E d elem j.size len 0 xs ys
      | .slice _, .fs _ _ .nil, .fs _ _ fl => some (fl == .nil)
      | .slice _, .fs _ _ fl, .fs _ _ .nil => some (fl == .nil)
      | .slice _, .fs _ _ .nil, .sl _ _ _ _ _ | .slice _, .sl _ _ _ _ _, .fs _ _ .nil => some false
      | .func _ _ _, .nilf, .nilf => some true
      | .func _ _ _, .nilf, .fn _ _ _ | .func _ _ _, .fn _ _ _, .nilf => some false
      | _, _, _ => none
def aEqFields (E : Env) : Nat → List Field → List AV → List AV → Option Bool
  | 0, _, _, _ => none
  | _, [], _, _ => some true
  | d + 1, f :: r, xs, ys =>
    match f.name == "_" with
    | true => aEqFields E d r xs ys
    | false =>
      match partOf E f.type xs f.offset, partOf E f.type ys f.offset with
      | some a, some b => match aEq E d f.type a b, aEqFields E d r xs ys with
        | some p, some q => some (p && q)
        | _, _ => none
      | _, _ => none
def aEqElems (E : Env) : Nat → TypeId → Nat → Nat → Nat → List AV → List AV → Option Bool
  | 0, _, _, _, _, _, _ => none
  | _, _, _, 0, _, _, _ => some true
  | d + 1, e, n, m + 1, i, xs, ys =>
    match partOf E e xs (i * n), partOf E e ys (i * n) with
    | some a, some b => match aEq E d e a b, aEqElems E d e n m (i + 1) xs ys with
      | some p, some q => some (p && q)
      | _, _ => none
    | _, _ => none
end

def bytesLess' : List UInt8 → List UInt8 → Bool := Op.bytesLess

/-- Operators on two whole numbers of one kind. -/
def aArithK (op : BinOp) (k : IntKind) (a b : Int) (kk : AV → Res) : Res :=
  match op with
  | .add => kk (.int k (k.wrap (a + b)))
  | .sub => kk (.int k (k.wrap (a - b)))
  | .mul => kk (.int k (k.wrap (a * b)))
  | .quo => aIf (b == 0) none (kk (.int k (k.wrap (a.tdiv b))))
  | .rem => aIf (b == 0) none (kk (.int k (a.tmod b)))
  | .and => kk (.int k (k.wrap ((BitVec.ofInt k.bits a &&& BitVec.ofInt k.bits b).toNat : Int)))
  | .or => kk (.int k (k.wrap ((BitVec.ofInt k.bits a ||| BitVec.ofInt k.bits b).toNat : Int)))
  | .xor => kk (.int k (k.wrap ((BitVec.ofInt k.bits a ^^^ BitVec.ofInt k.bits b).toNat : Int)))
  | .andNot => kk (.int k (k.wrap ((BitVec.ofInt k.bits a &&& ~~~ BitVec.ofInt k.bits b).toNat : Int)))
  | .eql => kk (.bool (a == b))
  | .neq => kk (.bool (a != b))
  | .lss => kk (.bool (decide (a < b)))
  | .leq => kk (.bool (decide (a ≤ b)))
  | .gtr => kk (.bool (decide (a > b)))
  | .geq => kk (.bool (decide (a ≥ b)))
  | _ => none
def aShiftK (op : BinOp) (k : IntKind) (a b : Int) (kk : AV → Res) : Res :=
  match op with
  | .shl => aIf (decide (b < 0)) none (kk (.int k (k.wrap (a * 2 ^ (min b.toNat k.bits)))))
  | .shr => aIf (decide (b < 0)) none (kk (.int k (a.fdiv (2 ^ (min b.toNat k.bits)))))
  | _ => none
def aStrK (op : BinOp) (x y : ByteArray) (kk : AV → Res) : Res :=
  match op with
  | .add => aIf (decide (((x.size + y.size : Nat) : Int) > 9223372036854775807)) none (kk (.str (x ++ y)))
  | .eql => kk (.bool (x.toList == y.toList))
  | .neq => kk (.bool (!(x.toList == y.toList)))
  | .lss => kk (.bool (Op.bytesLess x.toList y.toList))
  | .leq => kk (.bool (Op.bytesLess x.toList y.toList || x.toList == y.toList))
  | .gtr => kk (.bool (!(Op.bytesLess x.toList y.toList || x.toList == y.toList)))
  | .geq => kk (.bool (!(Op.bytesLess x.toList y.toList)))
  | _ => none
def isConstO : Operand → Bool
  | .const _ => true
  | _ => false
def aBinK (E : Env) (op : BinOp) (t : TypeId) (xo yo : Operand) (x y : AV) (kk : AV → Res) : Res :=
  match x, y with
  | .int k a, .int k' b => match op with
    | .shl | .shr => aShiftK op k a b kk
    | _ => match k == k' with
      | true => aArithK op k a b kk
      | false => none
  | .str a, .str b => aStrK op a b kk
  | .nili, .nili => match isConstO xo || isConstO yo with
    | true => match op, aEq E 1000 t x y with
      | .eql, some b => kk (.bool b)
      | .neq, some b => kk (.bool (!b))
      | _, _ => none
    | false => none
  | .agg xs, .agg ys => match E.ti t with
    | none => none
    | some i => match i.eqOk with
      | true => match op, aEq E 1000 t (.agg xs) (.agg ys) with
        | .eql, some b => kk (.bool b)
        | .neq, some b => kk (.bool (!b))
        | _, _ => none
      | false => none
  | x, y => match op, aEq E 1000 t x y with
    | .eql, some b => kk (.bool b)
    | .neq, some b => kk (.bool (!b))
    | _, _ => none
def aUnK (op : UnOp) (x : AV) (kk : AV → Res) : Res :=
  match op, x with
  | .neg, .int k n => kk (.int k (k.wrap (0 - n)))
  | .xor, .int k n => kk (.int k (k.wrap ((BitVec.ofInt k.bits (match k.signed with | true => -1 | false => k.max) ^^^ BitVec.ofInt k.bits n).toNat : Int)))
  | .not, .bool b => kk (.bool (!b))
  | _, _ => none

def bytesAV (l : List UInt8) : List AV := l.map fun b => .int .u8 (b.toNat : Int)
def allU8 : List AV → Bool
  | [] => true
  | v :: r => v.isInt .u8 && allU8 r
def strOf (cs : List AV) : ByteArray := ⟨(cs.map fun v => UInt8.ofNat v.toInt.toNat).toArray⟩

/-- The cells that a slice shows. -/
def rowOf (H : AH) : AV → Option (List AV)
  | .fs _ xs _ => some (xs.flatMap AV.cells)
  | .sl id _ off len sz => match H[id]? with
    | some (.cells _ cs) => some ((cs.drop off).take (len * sz))
    | _ => none
  | _ => none
/-- Is it of the row's last make? -/
def verB (H : AH) : AV → Bool
  | .sl id ver _ _ _ => match H[id]? with
    | some (.cells v _) => v == ver
    | _ => false
  | _ => true

def limit47 : Int := 140737488355328
def limit48 : Int := 281474976710656

def aConvertK (E : Env) (src dst : TypeId) (x : AV) (H : AH) (kv : AV → AH → Res) : Res :=
  match E.ti src, E.ti dst with
  | some i, some j =>
    match i.desc, j.desc, x with
    | _, .int k, .int _ n => kv (.int k (k.wrap n)) H
    | _, .string, .int _ n => kv (.str (Utf8.encode n)) H
    | _, .string, .str s => kv (.str s) H
    | .slice e, .string, x => match E.ti e with
      | some ei => match ei.desc with
        | .int .u8 => match x with
          | .fs _ xs _ => aIf (allU8 xs) (kv (.str (strOf xs)) H) none
          | .sl id ver off len sz => aIf (verB H (.sl id ver off len sz)) (match rowOf H (.sl id ver off len sz) with
            | some cs => aIf (cs.length == len) (aIf (allU8 cs) (kv (.str (strOf cs)) H) none) none
            | none => none) none
          | _ => none
        | _ => none
      | none => none
    | _, .slice e, .str s => match E.ti e with
      | some ei => match ei.desc with
        | .int .u8 => kv (.fs 1 (bytesAV s.data.toList) .any) H
        | _ => none
      | none => none
    | _, _, _ => none
  | _, _ => none

def aLoadK (E : Env) (t : TypeId) (a : AV) (H : AH) (kv : AV → AH → Res) : Res :=
  match E.ti t with
  | none => none
  | some i => match a with
    | .ptr id ver off => match H[id]? with
      | some (.cells v cs) => aIf (v == ver) (aIf (decide (off + i.size ≤ cs.length)) (etasK etaK i.kinds (readCells cs off i.size) fun ws => kv (asVal i ws) H) none) none
      | _ => none
    | .fp cs => aIf (decide (i.size ≤ cs.length)) (etasK etaFK i.kinds (readCells cs 0 i.size) fun ws => kv (asVal i ws) H) none
    | _ => none

def aStoreK (E : Env) (t : TypeId) (a x : AV) (H : AH) (kv : AV → AH → Res) : Res :=
  match E.ti t with
  | none => none
  | some i => match a with
    | .ptr id ver off => match H[id]? with
      | some (.cells v cs) => match x.solid && x.cells.length == i.size with
        | true => aIf (v == ver) (aIf (decide (off + i.size ≤ cs.length)) (kv (.tup []) (H.set id (.cells ver (writeCells cs off x.cells)))) none) none
        | false => none
      | _ => none
    | _ => none

/-- Bounds of a cut: both are given, or not. -/
def aCutK (n : Nat) (lo hi : Option AV) (kk : Nat → Nat → Res) : Res :=
  match lo, hi with
  | none, none => kk 0 n
  | some (.int _ l), none => aIf (decide (0 ≤ l)) (aIf (decide (l ≤ (n : Int))) (kk l.toNat n) none) none
  | none, some (.int _ h) => aIf (decide (0 ≤ h)) (aIf (decide (h ≤ (n : Int))) (kk 0 h.toNat) none) none
  | some (.int _ l), some (.int _ h) => aIf (decide (0 ≤ l)) (aIf (decide (l ≤ h)) (aIf (decide (h ≤ (n : Int))) (kk l.toNat h.toNat) none) none) none
  | _, _ => none

/-- What is left of a slice of which no element and no room is left. -/
def zeroCap : SF → SF
  | .nil => .nil
  | _ => .zc

def aSliceK (E : Env) (t : TypeId) (x : AV) (lo hi mx : Option AV) (H : AH) (kv : AV → AH → Res) : Res :=
  match E.ti t with
  | none => none
  | some i =>
    match mx with
    | some m => match i.desc, x, lo, hi, m with   -- 'xs[:0:0]', 'xs[0:0:0]'
      | .slice e, .fs s _ fl, none, some (.int _ 0), .int _ 0 => match E.ti e with
        | none => none
        | some _ => kv (.fs s [] (zeroCap fl)) H
      | .slice e, .sl _ _ _ _ s, none, some (.int _ 0), .int _ 0 => match E.ti e with
        | none => none
        | some _ => kv (.fs s [] .zc) H
      | _, _, _, _, _ => none
    | none =>
      match i.desc, x with
      | .string, .str s => aCutK s.size lo hi fun l h => kv (.str (s.extract l h)) H
      | .slice e, .fs s xs fl => match E.ti e with
        | none => none
        | some ei => match s == ei.size with
          | true => aCutK xs.length lo hi fun l h => kv (.fs s ((xs.take h).drop l) fl) H
          | false => match xs with
            | [] => aCutK 0 lo hi fun _ _ => kv (.fs s [] fl) H
            | _ => none
      | .slice e, .sl id ver off len sz => match E.ti e with
        | none => none
        | some ei => match ei.size == sz with
          | true => aCutK len lo hi fun l h => kv (.sl id ver (off + l * sz) (h - l) sz) H
          | false => none
      | .pointer arr, .ptr id 0 off => match E.ti arr with
        | none => none
        | some ai => match ai.desc with
          | .array n e => match E.ti e with
            | none => none
            | some ei => aCutK n lo hi fun l h => kv (.sl id 0 (off + l * ei.size) (h - l) ei.size) H
          | _ => none
      | .array n e, .ptr id 0 off => match E.ti e with
        | none => none
        | some ei => aCutK n lo hi fun l h => kv (.sl id 0 (off + l * ei.size) (h - l) ei.size) H
      | _, _ => none

def aFieldAddrK (E : Env) (s : TypeId) (x : AV) (f : Nat) (kk : AV → Res) : Res :=
  match E.ti s with
  | none => none
  | some i => match i.desc with
    | .struct fields => match fieldPlace' E fields f with
      | none => none
      | some (off, size) => match size == 0 with
        | true => none
        | false => match x with
          | .ptr id ver o => kk (.ptr id ver (o + off))
          | .fp cs => kk (.fp (cs.drop off))
          | _ => none
    | _ => none

def cellsN (v : AV) : Nat → Nat → List AV
  | _, 0 => []
  | j, n + 1 => v.cell j :: cellsN v (j + 1) n

def aIndexAddrK (E : Env) (t : TypeId) (x i : AV) (kk : AV → Res) : Res :=
  match E.ti t, i with
  | some ti, .int _ n =>
    match ti.desc with
    | .array len e => match E.ti e with
      | none => none
      | some ei => aIf (decide (0 ≤ n)) (aIf (decide (n < (len : Int))) (match x with
          | .ptr id ver off => kk (.ptr id ver (off + n.toNat * ei.size))
          | .fp cs => kk (.fp (cs.drop (n.toNat * ei.size)))
          | _ => none) none) none
    | .slice e => match E.ti e with
      | none => none
      | some ei => match x with
        | .fs _ xs _ => aIf (decide (0 ≤ n)) (aIf (decide (n < (xs.length : Int))) (aIf ((xs.getD n.toNat .junk).cells.length == ei.size) (kk (.fp (cellsN (xs.getD n.toNat .junk) 0 ei.size))) none) none) none
        | .sl id ver off len sz => match ei.size == sz with
          | true => aIf (decide (0 ≤ n)) (aIf (decide (n < (len : Int))) (kk (.ptr id ver (off + n.toNat * sz))) none) none
          | false => none
        | _ => none
    | _ => none
  | _, _ => none

def aIndexK (E : Env) (t : TypeId) (x i : AV) (kk : AV → Res) : Res :=
  match E.ti t, i with
  | some ti, .int _ n =>
    match ti.desc, x with
    | .array len e, .agg cs => match E.ti e with
      | none => none
      | some ei => aIf (decide (0 ≤ n)) (aIf (decide (n < (len : Int))) (aIf (decide (n.toNat * ei.size + ei.size ≤ cs.length)) (etasK etaK ei.kinds (readCells cs (n.toNat * ei.size) ei.size) fun ws => kk (asVal ei ws)) none) none) none
    | .string, .str s => aIf (decide (0 ≤ n)) (aIf (decide (n < (s.size : Int))) (kk (.int .u8 ((s.data.getD n.toNat 0).toNat : Int))) none) none
    | _, _ => none
  | _, _ => none

def aLenK (E : Env) (t : TypeId) (x : AV) (kk : AV → Res) : Res :=
  match E.ti t with
  | none => none
  | some i => match i.desc, x with
    | .string, .str s => kk (.int .i64 (s.size : Int))
    | .array n _, _ => kk (.int .i64 (n : Int))
    | .slice _, .fs _ xs _ => kk (.int .i64 (xs.length : Int))
    | .slice _, .sl _ _ _ len _ => kk (.int .i64 (len : Int))
    | _, _ => none

/-- What is appended: its cells, how many elements. -/
def newsOf (H : AH) (sz : Nat) : AV → Option (List AV × Nat)
  | .fs _ xs _ => some (xs.flatMap AV.cells, xs.length)
  | .sl id ver off len sz' => match sz' == sz, rowOf H (.sl id ver off len sz') with
    | true, some cs => some (cs, len)
    | _, _ => none
  | .str s => match sz == 1 with
    | true => some (bytesAV s.data.toList, s.size)
    | false => none
  | _ => none

def isIntD : TypeDesc → Bool
  | .int _ => true
  | _ => false

def aAppendK (E : Env) (argTypes : Array TypeId) (s x : AV) (H : AH) (kv : AV → AH → Res) : Res :=
  match argTypes[0]?, argTypes[1]? with
  | some t, some t2 => match E.ti t, E.ti t2 with
    | some i, some i2 => match i.desc, isIntD i2.desc with
      | .slice e, false => match E.ti e with
        | none => none
        | some ei => aIf (verB H x) (match newsOf H ei.size x with
          | none => none
          | some (news, m) => match s with
            | .fs _ _ .nil | .fs _ _ .zc =>
              aIf (m == 0) (kv s H) (aIf (Nat.ble (m * max ei.bytes 1) 140737488355328) (aIf (news.length == m * ei.size) (kv (.sl H.length (m * ei.size) 0 m ei.size) (H ++ [.cells (m * ei.size) news])) none) none)
            | .sl id ver 0 len sz => match H[id]?, sz == ei.size with
              | some (.cells v cs), true => aIf (ver == 0) none (aIf (v == ver) (aIf (Nat.ble ((len + m) * max ei.bytes 1) 140737488355328) (aIf (news.length == m * sz)
                    (kv (.sl id (max ver ((len + m) * sz)) 0 (len + m) sz) (H.set id (.cells (max ver ((len + m) * sz)) (cs.take (len * sz) ++ news ++ cs.drop (len * sz + m * sz))))) none) none) none)
              | _, _ => none
            | _ => none) none
      | _, _ => none
    | _, _ => none
  | _, _ => none

/-- copy: into a row. -/
def aCopyK (E : Env) (argTypes : Array TypeId) (d s : AV) (H : AH) (kv : AV → AH → Res) : Res :=
  match argTypes[0]? with
  | none => none
  | some t => match E.ti t with
    | none => none
    | some i => match i.desc with
      | .slice e => match E.ti e with
        | none => none
        | some ei => aIf (verB H s) (match newsOf H ei.size s with
          | none => none
          | some (news, m) => match d with
            | .sl id ver off len sz => match H[id]?, sz == ei.size with
              | some (.cells v cs), true => aIf (v == ver) (aIf (news.length == m * sz) (aIf (decide (off + len * sz ≤ cs.length))
                    (kv (.int .i64 ((min m len : Nat) : Int)) (H.set id (.cells ver (cs.take off ++ news.take (min m len * sz) ++ cs.drop (off + min m len * sz))))) none) none) none
              | _, _ => none
            | .fs _ [] _ => kv (.int .i64 0) H
            | _ => none) none
      | _ => none

def maxL (op : Int → Int → Int) (k : IntKind) : List AV → Int → Option Int
  | [], m => some m
  | .int k' n :: r, m => match k == k' with
    | true => maxL op k r (op m n)
    | false => none
  | _, _ => none
def mx (x y : Int) : Int := if y > x then y else x
def mn (x y : Int) : Int := if y < x then y else x

def flatB (v : AV) : Bool := v.closed && v.one
def flatL : List AV → Bool
  | [] => true
  | v :: r => flatB v && flatL r
/-- A slice's elements. -/
def chunkF (sz off len : Nat) (cs : List AV) : List AV :=
  match sz == 1 with
  | true => (cs.drop off).take len
  | false => (List.range len).map fun i => .agg ((cs.drop (off + i * sz)).take sz)

/-- clear: a slice of a row. -/
def aClearK (E : Env) (argTypes : Array TypeId) (x : AV) (H : AH) (kv : AV → AH → Res) : Res :=
  match argTypes[0]? with
  | none => none
  | some t => match E.ti t with
    | none => none
    | some i => match i.desc with
      | .slice e => match E.ti e with
        | none => none
        | some ei => match x with
          | .fs _ [] _ => kv (.tup []) H
          | .sl id ver off len sz => match H[id]?, sz == ei.size with
            | some (.cells v cs), true => aIf (v == ver) (aIf (decide (off + len * sz ≤ cs.length))
                  (kv (.tup []) (H.set id (.cells ver (cs.take off ++ (List.replicate len ei.zero).flatten ++ cs.drop (off + len * sz))))) none) none
            | _, _ => none
          | _ => none
      | _ => none

mutual
/-- Is it a value of a type that a map's key may be? -/
def chkK (E : Env) : Nat → TypeId → AV → Bool
  | 0, _, _ => false
  | d + 1, t, v =>
    match E.ti t with
    | none => false
    | some i => match i.desc, v with
      | .int _, _ => true
      | .bool, _ => true
      | .string, _ => true
      | .array len e, .agg cs => match E.ti e with
        | none => false
        | some ei => chkElems E d e ei.size len 0 cs
      | .struct fs, .agg cs => chkFields E d fs.toList cs
      | _, _ => false
def chkFields (E : Env) : Nat → List Field → List AV → Bool
  | 0, _, _ => false
  | _, [], _ => true
  | d + 1, f :: r, cs =>
    match f.name == "_" with
    | true => chkFields E d r cs
    | false => match partOf E f.type cs f.offset with
      | some v => chkK E d f.type v && chkFields E d r cs
      | none => false
def chkElems (E : Env) : Nat → TypeId → Nat → Nat → Nat → List AV → Bool
  | 0, _, _, _, _, _ => false
  | _, _, _, 0, _, _ => true
  | d + 1, e, n, m + 1, i, cs =>
    match partOf E e cs (i * n) with
    | some v => chkK E d e v && chkElems E d e n m (i + 1) cs
    | none => false
end
/-- Are they the same whole numbers? -/
def sameIB : List AV → List AV → Bool
  | [], [] => true
  | .int k a :: r, .int k' b :: s => (k == k' && a == b) && sameIB r s
  | _, _ => false
/-- An entry of a map by its key. -/
def findK (E : Env) (kt : TypeId) (k : AV) : List (AV × AV) → Nat → (Option (Nat × AV × AV) → Res) → Res
  | [], _, kk => kk none
  | (a, v) :: r, i, kk => match aEq E 1000 kt k a with
    | some b => aIf b (kk (some (i, a, v))) (findK E kt k r (i + 1) kk)
    | none => none
def isWide : TypeDesc → Bool
  | .struct _ => true
  | .array _ _ => true
  | _ => false
def aMapSetK (E : Env) (t : TypeId) (m k v : AV) (H : AH) (kv : AV → AH → Res) : Res :=
  match E.ti t with
  | none => none
  | some i => match i.desc with
    | .map kt _ => match E.ti kt with
      | none => none
      | some ki => match isWide ki.desc with
        | false => none
        | true => match m with
          | .mp id => match H[id]? with
            | some (.mp es) => match k with
              | .agg ks => aIf (chkK E 10000 kt k && k.closed && v.closed) (findK E kt k es 0 fun r => match r with
                | some (j, .agg old, _) => aIf (sameIB old ks) (kv (.tup []) (H.set id (.mp (es.set j (k, v))))) none
                | some _ => none
                | none => kv (.tup []) (H.set id (.mp (es ++ [(k, v)])))) none
              | _ => none
            | _ => none
          | _ => none
    | _ => none
def aLookupK (E : Env) (t : TypeId) (m k : AV) (ok : Bool) (H : AH) (kv : AV → AH → Res) : Res :=
  match E.ti t with
  | none => none
  | some i => match i.desc with
    | .map kt et => match E.ti kt, E.ti et with
      | some ki, some ei => match isWide ki.desc with
        | false => none
        | true => match m with
          | .mp id => match H[id]? with
            | some (.mp es) => aIf (chkK E 10000 kt k && k.closed) (findK E kt k es 0 fun r => match r with
              | some (_, _, v) => kv (match ok with
                | true => .tup [v, .bool true]
                | false => v) H
              | none => kv (match ok with
                | true => .tup [asVal ei ei.zero, .bool false]
                | false => asVal ei ei.zero) H) none
            | _ => none
          | _ => none
      | _, _ => none
    | _ => none

def aBuiltinK (E : Env) (b : Builtin) (argTypes : Array TypeId) (args : List AV) (H : AH) (kv : AV → AH → Res) : Res :=
  match b, args with
  | .len, [x] => match argTypes[0]? with
    | some t => aLenK E t x fun v => kv v H
    | none => none
  | .append, [s, x] => aAppendK E argTypes s x H kv
  | .copy, [d, s] => aCopyK E argTypes d s H kv
  | .clear, [x] => aClearK E argTypes x H kv
  | .max, .int k n :: r => match maxL mx k r n with
    | some m => kv (.int k m) H
    | none => none
  | .min, .int k n :: r => match maxL mn k r n with
    | some m => kv (.int k m) H
    | none => none
  | _, _ => none

def freezeLK (f : AV → (AV → Res) → Res) : List AV → (List AV → Res) → Res
  | [], kk => kk []
  | v :: r, kk => f v fun x => freezeLK f r fun xs => kk (x :: xs)

/-- What was made in a call, by value. -/
def freezeK (H : AH) : Nat → AV → (AV → Res) → Res
  | 0, _, _ => none
  | d + 1, v, kk => match v with
    | .sl id ver off len sz => match H[id]? with
      | some (.cells w cs) => aIf (w == ver) (aIf (decide (off + len * sz ≤ cs.length)) (aIf (flatL ((cs.drop off).take (len * sz))) (kk (.fs sz (chunkF sz off len cs) .any)) none) none) none
      | _ => none
    | .agg cs => freezeLK (freezeK H d) cs fun xs => kk (.agg xs)
    | .tup cs => freezeLK (freezeK H d) cs fun xs => kk (.tup xs)
    | .iface t v => freezeK H d v fun v => kk (.iface t v)
    | .ptr id ver off => match H[id]? with
      | some (.cells w cs) => aIf (w == ver) (freezeLK (freezeK H d) (cs.drop off) fun xs => kk (.fp xs)) none
      | _ => none
    | .fn f a b => freezeLK (freezeK H d) a fun a => freezeLK (freezeK H d) b fun b => kk (.fn f a b)
    | .yld _ => none
    | .mp _ => none
    | v => kk v

mutual
/-- Does it name no memory at all? -/
def AV.plain : AV → Bool
  | .bool _ | .int _ _ | .str _ | .nilp | .nilf | .nili => true
  | .fs _ [] .nil => true
  | .fs _ [] .zc => true
  | .iface _ v => v.plain
  | .agg cs => AV.plainL cs
  | .tup vs => AV.plainL vs
  | _ => false
def AV.plainL : List AV → Bool
  | [] => true
  | v :: r => v.plain && AV.plainL r
end

/-- Rows of ours by value, lent for a call: what is lent is marked. -/
def lendK (H : AH) : Nat → AV → (AV → Res) → Res
  | 0, _, _ => none
  | d + 1, v, kk => match v with
    | .sl id ver off len sz => match H[id]? with
      | some (.cells w cs) => aIf (w == ver) (aIf (decide (off + len * sz ≤ cs.length)) (aIf (flatL ((cs.drop off).take (len * sz))) (kk (.fs sz (chunkF sz off len cs) .bor)) none) none) none
      | _ => none
    | .agg cs => freezeLK (lendK H d) cs fun xs => kk (.agg xs)
    | .tup cs => freezeLK (lendK H d) cs fun xs => kk (.tup xs)
    | .ptr _ _ _ => none
    | .fn _ _ _ => none
    | .iface _ _ => none
    | .yld _ => none
    | .mp _ => none
    | v => kk v

mutual
/-- Does nothing lent stand in it? -/
def AV.firm : AV → Bool
  | .fs _ xs fl => fl.firm && AV.firmL xs
  | .fp _ => false
  | .agg cs => AV.firmL cs
  | .tup vs => AV.firmL vs
  | .iface _ v => v.firm
  | .fn _ a b => AV.firmL a && AV.firmL b
  | _ => true
def AV.firmL : List AV → Bool
  | [] => true
  | v :: r => v.firm && AV.firmL r
end

/-- A call of a function: in memory of its own, where no row of ours is handed in. -/
def aEnterK (C : Ctx) (f : FuncId) (args : List AV) (H : AH) (kv kp : AV → AH → Res) : Res :=
  match AV.closedL args && !C.live f with
  | true => C.call f args [] fun e H1 => match H1 with
    | [] => match e with
      | .ret v => match v.closed with
        | true => kv v H
        | false => none
      | .pan v => match v.closed with
        | true => kp v H
        | false => none
    | _ => none
  | false => match C.calm f with
    | true => freezeLK (freezeK H 8) args fun xs => match AV.closedL xs with
      | true => C.call f xs [] fun e H1 => match H1 with
        | [] => match e with
          | .ret v => match v.plain with
            | true => kv v H
            | false => none
          | .pan _ => none
        | _ => none
      | false => none
    | false => match C.lend f with
      | true => freezeLK (lendK H 8) args fun xs => match AV.closedL xs with
        | true => C.call f xs [] fun e H1 => match H1 with
          | [] => match e with
            | .ret v => match v.closed with
              | true => aIf v.firm (kv v H) none
              | false => none
            | .pan _ => none
          | _ => none
        | false => none
      | false => C.call f args H fun e H1 => match e with
        | .ret v => kv v H1
        | .pan v => kp v H1

def isApp : Builtin → Bool
  | .append => true
  | _ => false
/-- Something appended to an empty literal. -/
def zcBase : List AV → Bool
  | [.fs _ [] .zc, .fs _ _ _] => true
  | _ => false
/-- Is what it makes frozen at once? -/
def stillB (C : Ctx) (b : Builtin) (args : List AV) : Bool := isApp b && zcBase args && C.live 2000000


def aCallK (C : Ctx) (ts : ATs) (c : Call) (H : AH) (kv kp : AV → AH → Res) : Res :=
  match c.callee with
  | .builtin b => match stillB C b (c.args.toList.map (evalO ts)) with
    | true => aBuiltinK C.E b c.argTypes (c.args.toList.map (evalO ts)) [] fun v H1 => freezeK H1 8 v fun v => kv v H
    | false => aBuiltinK C.E b c.argTypes (c.args.toList.map (evalO ts)) H kv
  | .value f => match evalO ts f with
    | .fn (.func g) first captured => aEnterK C g (first ++ c.args.toList.map (evalO ts) ++ captured) H kv kp
    | .yld l => C.round l (c.args.toList.map (evalO ts)) H fun e H1 => match e with
      | .ret v => kv v H1
      | .pan v => kp v H1
    | _ => none
  | .invoke _ _ => none

def aMakeSliceK (E : Env) (t : TypeId) (l c : AV) (H : AH) (kv : AV → AH → Res) : Res :=
  match E.ti t, l, c with
  | some i, .int _ l, .int _ c => match i.desc with
    | .slice e => match E.ti e with
      | none => none
      | some ei => match ei.size == 0 with
        | true => none
        | false =>
          aIf (decide (0 ≤ l)) (aIf (decide (l ≤ c)) (aIf (decide (c * ei.bytes ≤ limit48)) (aIf (decide (c ≤ limit48))
            (aIf (c == 0) (kv (.fs ei.size [] .zc) H)
              (kv (.sl H.length (c.toNat * ei.size) 0 l.toNat ei.size) (H ++ [.cells (c.toNat * ei.size) (List.replicate c.toNat ei.zero).flatten]))) none) none) none) none
    | _ => none
  | _, _, _ => none

def aNextK (it : AV) (H : AH) (kv : AV → AH → Res) : Res :=
  match it with
  | .ptr id 0 0 => match H[id]? with
    | some (.iter s pos) => aIf (decide (pos < s.size))
        (kv (.tup [.bool true, .int .i64 (pos : Int), .int .i32 ((Utf8.decode s pos).1 : Int)]) (H.set id (.iter s (pos + (Utf8.decode s pos).2))))
        (kv (.tup [.bool false]) H)
    | _ => none
  | _ => none

def aTypeAssertK (E : Env) (x : AV) (asserted : TypeId) (ok : Bool) (kk : AV → Res) : Res :=
  match E.ti asserted with
  | none => none
  | some i => match i.desc with
    | .interface _ => none
    | _ => match x, ok with
      | .iface t v, true => match t == asserted with
        | true => kk (.tup [v, .bool true])
        | false => kk (.tup [asVal i i.zero, .bool false])
      | .nili, true => kk (.tup [asVal i i.zero, .bool false])
      | .iface t v, false => match t == asserted with
        | true => kk v
        | false => none
      | _, _ => none

def buildPlaces (E : Env) (i : TI) : Option (Nat → Option (Nat × Nat)) :=
  match i.desc with
  | .struct fields => some (fieldPlace' E fields)
  | .array _ e => match E.ti e with
    | some ei => some fun j => some (j * ei.size, ei.size)
    | none => none
  | _ => none

def evalP (ts : ATs) (parts : Array (Nat × Operand)) : List (Nat × AV) := parts.toList.map fun p => (p.1, evalO ts p.2)

/-- One operation. -/
def aOpK (C : Ctx) (ts : ATs) (o : Op) (H : AH) (kv kp : AV → AH → Res) : Res :=
  match o with
  | .move x | .assign x => kv (evalO ts x) H
  | .pick c a b => match evalO ts c with
    | .bool t => aIf t (kv (evalO ts a) H) (kv (evalO ts b) H)
    | _ => none
  | .alloc t => match C.E.ti t with
    | some i => kv (.ptr H.length 0 0) (H ++ [.cells 0 i.zero])
    | none => none
  | .box _ x => match (evalO ts x).solid with
    | true => kv (.ptr H.length 0 0) (H ++ [.cells 0 (evalO ts x).cells])
    | false => none
  | .build t parts => match C.E.ti t with
    | none => none
    | some i => match buildPlaces C.E i with
      | none => none
      | some pl => match aFill pl i.zero (evalP ts parts) with
        | some cs => kv (.agg cs) H
        | none => none
  | .buildSlice t len parts => match C.E.ti t with
    | none => none
    | some i => match i.desc with
      | .slice e => match C.E.ti e with
        | none => none
        | some ei => match decide (len * ei.size ≤ 2 ^ 24) with
          | true => match len * ei.size == 0, len == 0 with
            | true, true => match parts.toList with
              | [] => kv (.fs ei.size [] .zc) H
              | _ => none
            | true, false => none
            | false, _ => match aFill (fun j => some (j * ei.size, ei.size)) (List.replicate len ei.zero).flatten (evalP ts parts) with
              | some cs => match flatL cs with
                | true => kv (.fs ei.size (chunkF ei.size 0 len cs) .any) H
                | false => kv (.sl H.length (len * ei.size) 0 len ei.size) (H ++ [.cells (len * ei.size) cs])
              | none => none
          | false => none
      | _ => none
  | .load t a => aLoadK C.E t (evalO ts a) H kv
  | .store t a x => aStoreK C.E t (evalO ts a) (evalO ts x) H kv
  | .nilCheck x => match evalO ts x with
    | .ptr a b c => kv (.ptr a b c) H
    | .fp cs => kv (.fp cs) H
    | _ => none
  | .binOp op t x y _ => aBinK C.E op t x y (evalO ts x) (evalO ts y) fun v => kv v H
  | .unOp op _ x => aUnK op (evalO ts x) fun v => kv v H
  | .convert src dst x => aConvertK C.E src dst (evalO ts x) H kv
  | .makeInterface t x => match C.E.ti t with
    | some i => match i.desc with
      | .interface _ => none
      | _ => kv (.iface t (evalO ts x)) H
    | none => none
  | .makeFunc f first captured => kv (.fn f (first.toList.map (evalO ts)) (captured.toList.map (evalO ts))) H
  | .makeMap _ none => kv (.mp H.length) (H ++ [.mp []])
  | .mapUpdate t m k v => aMapSetK C.E t (evalO ts m) (evalO ts k) (evalO ts v) H kv
  | .lookup t m k ok => aLookupK C.E t (evalO ts m) (evalO ts k) ok H kv
  | .makeSlice t l c => aMakeSliceK C.E t (evalO ts l) (evalO ts c) H kv
  | .slice t x lo hi m => aSliceK C.E t (evalO ts x) (lo.map (evalO ts)) (hi.map (evalO ts)) (m.map (evalO ts)) H kv
  | .fieldAddr s x f => aFieldAddrK C.E s (evalO ts x) f fun v => kv v H
  | .field t x f => match C.E.ti t with
    | some i => match i.desc, evalO ts x with
      | .struct fields, .agg cs => match fields[f]? with
        | some fd => match partOf C.E fd.type cs fd.offset with
          | some v => kv v H
          | none => none
        | none => none
      | _, _ => none
    | none => none
  | .indexAddr t x i => aIndexAddrK C.E t (evalO ts x) (evalO ts i) fun v => kv v H
  | .index t x i => aIndexK C.E t (evalO ts x) (evalO ts i) fun v => kv v H
  | .range t x => match C.E.ti t with
    | some i => match i.desc, evalO ts x with
      | .string, .str s => kv (.ptr H.length 0 0) (H ++ [.iter s 0])
      | _, _ => none
    | none => none
  | .next it true => aNextK (evalO ts it) H kv
  | .typeAssert x _ asserted ok => aTypeAssertK C.E (evalO ts x) asserted ok fun v => kv v H
  | .extract t i => match evalO ts t with
    | .tup vs => match vs[i]? with
      | some v => kv v H
      | none => none
    | _ => none
  | .call c => aCallK C ts c H kv kp
  | .panic x => match evalO ts x with
    | .iface t v => kp (.iface t v) H
    | _ => none
  | _ => none

/-- The slot that says whether a guarded operation is carried out. -/
def guardSlot (ops : Array Oper) (j : Nat) : Option Tmp :=
  match ops[j]? with
  | some o => o.dst
  | none => none

def dstOk (n : Nat) : Option Tmp → Bool
  | some d => decide (d < n)
  | none => true

def aOpsK (C : Ctx) (ops : Array Oper) : List Oper → ATs → AH → KC → Res
  | [], ts, H, k => k .normal ts H
  | o :: r, ts, H, k =>
    let go (ts : ATs) : Res := aOpK C ts o.op H (fun v H => aOpsK C ops r (ts.put o.dst v) H k) (fun v H => k (.pan v) ts H)
    let skip (ts : ATs) : Res := aOpsK C ops r (ts.put o.dst (.tup [])) H k
    match dstOk C.nt o.dst with
    | false => none
    | true =>
    match o.guard with
    | none => go ts
    | some (j, want) => match guardSlot ops j with
      | none => none
      | some t => match ts.get t with
        | .bool b => match want with
          | true => aIf b (go (ts.put (some t) (.bool true))) (skip (ts.put (some t) (.bool false)))
          | false => aIf b (skip (ts.put (some t) (.bool true))) (go (ts.put (some t) (.bool false)))
        | .tup [] => skip ts
        | _ => none

/-- The temporaries that an operation looks at. -/
def tmpsOf : List Operand → List Nat
  | [] => []
  | .tmp t :: r => t :: tmpsOf r
  | _ :: r => tmpsOf r
def usesOp (ops : Array Oper) (o : Oper) : List Nat :=
  match o.guard with
  | none => tmpsOf o.op.operands.toList
  | some (j, _) => match guardSlot ops j with
    | some t => t :: tmpsOf o.op.operands.toList
    | none => tmpsOf o.op.operands.toList

/-- May the two come either way round? -/
def apartB (ops : Array Oper) (o p : Oper) : Bool :=
  (match o.dst with
   | some d => !(usesOp ops p).contains d && !(p.dst == some d)
   | none => true) &&
  (match p.dst with
   | some d => !(usesOp ops o).contains d
   | none => true)

/-- Does a slice that is built stand by value? -/
def bsFlat (E : Env) (t : TypeId) (len : Nat) (parts : List (Nat × AV)) : Bool :=
  match E.ti t with
  | none => true
  | some i => match i.desc with
    | .slice e => match E.ti e with
      | none => true
      | some ei => match len * ei.size == 0 with
        | true => true
        | false => match aFill (fun j => some (j * ei.size, ei.size)) (List.replicate len ei.zero).flatten parts with
          | some cs => flatL cs
          | none => true
    | _ => true
/-- Does it leave our rows alone? -/
def quietB (C : Ctx) (ts : ATs) (o : Op) : Bool :=
  match o with
  | .move _ | .assign _ | .pick _ _ _ | .load _ _ | .nilCheck _ | .binOp _ _ _ _ _ | .unOp _ _ _ | .convert _ _ _ | .makeInterface _ _ | .makeFunc _ _ _
  | .slice _ _ _ _ _ | .fieldAddr _ _ _ | .field _ _ _ | .indexAddr _ _ _ | .index _ _ _ | .typeAssert _ _ _ _ | .extract _ _ | .build _ _ => true
  | .buildSlice t len parts => bsFlat C.E t len (evalP ts parts)
  | .call c => match c.callee with
    | .builtin .len | .builtin .max | .builtin .min => true
    | .value f => match evalO ts f with
      | .fn (.func g) first captured => (AV.closedL (first ++ c.args.toList.map (evalO ts) ++ captured) && !C.live g) || C.calm g
      | _ => false
    | _ => false
  | _ => false

/-- Is it one that has its place? -/
def barB (C : Ctx) (o : Op) : Bool :=
  match o with
  | .move _ | .assign _ | .pick _ _ _ | .load _ _ | .nilCheck _ | .binOp _ _ _ _ _ | .unOp _ _ _ | .convert _ _ _ | .makeInterface _ _ | .makeFunc _ _ _
  | .slice _ _ _ _ _ | .fieldAddr _ _ _ | .field _ _ _ | .indexAddr _ _ _ | .index _ _ _ | .typeAssert _ _ _ _ | .extract _ _ | .build _ _ | .buildSlice _ _ _ => false
  | .call c => match c.callee with
    | .builtin .len | .builtin .max | .builtin .min => false
    | .value (.func g) => C.live g
    | _ => true
  | _ => true

def edgesOf (o : Oper) : List Nat := (o.after.toList.filter (Region.binds .any)).map (·.on)
/-- Each but once. -/
def onceL : List Nat → List Nat → List Nat
  | [], acc => acc
  | x :: r, acc => match acc.contains x with
    | true => onceL r acc
    | false => onceL r (x :: acc)
def ancT : List Oper → List (List Nat) → List (List Nat)
  | [], T => T
  | o :: r, T => ancT r (T ++ [onceL ((edgesOf o).flatMap fun e => e :: T.getD e []) []])

def pairsOk (C : Ctx) (ops : Array Oper) (T : List (List Nat)) (j : Nat) (p : Oper) : Nat → List Oper → Bool
  | _, [] => true
  | i, o :: r => match decide (i < j) with
    | false => true
    | true => ((apartB ops o p && !(barB C o.op && barB C p.op)) || (T.getD j []).contains i) && pairsOk C ops T j p (i + 1) r
def drawOk (C : Ctx) (ops : Array Oper) (T : List (List Nat)) : Nat → List Oper → Bool
  | _, [] => true
  | j, p :: r => (edgesOf p).all (fun e => decide (e < j)) && pairsOk C ops T j p 0 ops.toList && drawOk C ops T (j + 1) r

/-- Does it but lay rows of its own? -/
def growB : Op → Bool
  | .alloc _ | .box _ _ => true
  | _ => false
def atomB : AV → Bool
  | .bool _ | .int _ _ | .str _ => true
  | _ => false
def atomL : List AV → Bool
  | [] => true
  | v :: r => atomB v && atomL r
/-- The one row that arguments name, by one slice. -/
def soleRow : List AV → Option Nat
  | [] => none
  | v :: r => match atomB v with
    | true => soleRow r
    | false => match v with
      | .sl id _ _ _ _ => match atomL r with
        | true => some id
        | false => none
      | _ => none
/-- The row that it reads. -/
def lookId (C : Ctx) (ts : ATs) : Op → Option Nat
  | .load _ a => match evalO ts a with
    | .ptr id _ _ => some id
    | _ => none
  | .call c => match c.callee with
    | .value (.func g) => match C.calm g with
      | true => soleRow (c.args.toList.map (evalO ts))
      | false => none
    | _ => none
  | _ => none
def dstsOf (ops : Array Oper) : List Nat := ops.toList.filterMap (·.dst)
def fieldDst (o : Oper) : Option Tmp :=
  match o.op with
  | .fieldAddr _ _ _ => o.dst
  | .buildSlice _ 0 _ => o.dst
  | _ => none
/-- Temporaries that a region's operations give a field's address, or an empty literal. -/
def fieldDsts (ops : Array Oper) : List Nat := ops.toList.filterMap fieldDst
def scrubT (ops : Array Oper) (ts : ATs) : ATs := ts.filter fun q => !(fieldDsts ops).contains q.1
def awayB (id : Nat) : AV → Bool
  | .ptr i _ _ => !(i == id)
  | _ => false
/-- Does it give that temporary nothing but an address in another row? -/
def farB (ops : Array Oper) (ts : ATs) (id u : Nat) (p : Oper) : Bool :=
  match p.dst with
  | none => true
  | some d => match d == u with
    | false => true
    | true => match p.op with
      | .fieldAddr _ (.tmp q) _ => !(dstsOf ops).contains q && awayB id (ts.get q)
      | _ => false
/-- Does it but store to another row? -/
def asideB (ops : Array Oper) (ts : ATs) (id : Nat) : Op → Bool
  | .store _ (.tmp u) _ => match (dstsOf ops).contains u with
    | false => awayB id (ts.get u)
    | true => (fieldDsts ops).contains u && ops.toList.all (farB ops ts id u)
  | _ => false
/-- Does it give that temporary nothing but an empty literal? -/
def voidB (u : Nat) (p : Oper) : Bool :=
  match p.dst with
  | none => true
  | some d => match d == u with
    | false => true
    | true => match p.op with
      | .buildSlice _ 0 _ => true
      | _ => false
/-- Does it but append to an empty literal? -/
def voidApp (ops : Array Oper) : Op → Bool
  | .call c => match c.callee with
    | .builtin .append => match c.args.toList with
      | [.tmp u, _] => (fieldDsts ops).contains u && ops.toList.all (voidB u)
      | _ => false
    | _ => false
  | _ => false
/-- A call of a function. -/
def isVC : Op → Bool
  | .call c => match c.callee with
    | .value _ => true
    | _ => false
  | _ => false
/-- Is a look's place among the calls of functions fixed? -/
def besideB (T : List (List Nat)) (j : Nat) : Nat → List Oper → Bool
  | _, [] => false
  | i, o :: r => (isVC o.op && !(T.getD i []).contains j && !(T.getD j []).contains i) || besideB T j (i + 1) r
/-- Rows that are looked at, by temporaries of the region ahead, beside calls of functions. -/
def watchL (ops : Array Oper) (ts : ATs) (T : List (List Nat)) : Nat → List Oper → List Nat
  | _, [] => []
  | j, o :: r => match o.op with
    | .load _ (.tmp u) => match (dstsOf ops).contains u with
      | true => watchL ops ts T (j + 1) r
      | false => match besideB T j 0 ops.toList with
        | false => watchL ops ts T (j + 1) r
        | true => match ts.get u with
          | .ptr id _ _ => id :: watchL ops ts T (j + 1) r
          | _ => watchL ops ts T (j + 1) r
    | _ => watchL ops ts T (j + 1) r
def watchIds (ops : Array Oper) (ts : ATs) : List Nat := watchL ops ts (ancT ops.toList []) 0 ops.toList
def sameAV : AV → AV → Bool
  | .ptr a b c, .ptr a' b' c' => (a == a' && b == b') && c == c'
  | .nilp, .nilp => true
  | .int k n, .int k' n' => k == k' && n == n'
  | .bool a, .bool b => a == b
  | _, _ => false
def sameAVs : List AV → List AV → Bool
  | [], [] => true
  | x :: xs, y :: ys => sameAV x y && sameAVs xs ys
  | _, _ => false
def sameAO : Option AO → Option AO → Bool
  | some (.cells v cs), some (.cells v' cs') => v == v' && sameAVs cs cs'
  | _, _ => false
/-- Has a call left these rows as they were? -/
def watchB (H H1 : AH) : List Nat → Bool
  | [] => true
  | id :: r => sameAO H[id]? H1[id]? && watchB H H1 r
/-- May it come ahead of a look at a row, or behind? -/
def exemptB (ops : Array Oper) (ts : ATs) : Option Nat → Op → Bool
  | none, _ => false
  | some id, o => growB o || (asideB ops ts id o || (voidApp ops o || (isVC o && (watchIds ops ts).contains id)))
/-- Is its place among those that turn our rows fixed? g: those that may come ahead or behind. -/
def steadyL (C : Ctx) (T : List (List Nat)) (g : Op → Bool) (j : Nat) : Nat → List Oper → Bool
  | _, [] => true
  | i, o :: r => (!barB C o.op || g o.op || (match Nat.blt i j with
    | true => (T.getD j []).contains i
    | false => match Nat.blt j i with
      | true => (T.getD i []).contains j
      | false => true)) && steadyL C T g j (i + 1) r
def steadyB (C : Ctx) (ops : Array Oper) (g : Op → Bool) (j : Nat) : Bool := steadyL C (ancT ops.toList []) g j 0 ops.toList

/-- Does it look at no row of ours? -/
def blindB (C : Ctx) (ts : ATs) (o : Op) : Bool :=
  match o with
  | .move _ | .assign _ | .pick _ _ _ | .nilCheck _ | .binOp _ _ _ _ _ | .unOp _ _ _ | .makeInterface _ _ | .makeFunc _ _ _
  | .slice _ _ _ _ _ | .fieldAddr _ _ _ | .field _ _ _ | .indexAddr _ _ _ | .index _ _ _ | .typeAssert _ _ _ _ | .extract _ _ | .build _ _ | .buildSlice _ _ _ => true
  | .convert _ _ x => match evalO ts x with
    | .sl _ _ _ _ _ => false
    | _ => true
  | .load _ a => match evalO ts a with
    | .fp _ => true
    | _ => false
  | .call c => match c.callee with
    | .builtin .len | .builtin .max | .builtin .min => true
    | .value f => match evalO ts f with
      | .fn (.func g) first captured => AV.closedL (first ++ c.args.toList.map (evalO ts) ++ captured) && !C.live g
      | _ => false
    | _ => false
  | _ => false

/-- A region's operations where any order may come. -/
def aDrawK (C : Ctx) (ops : Array Oper) : List Oper → ATs → AH → KC → Res
  | [], ts, H, k => k .normal ts H
  | o :: r, ts, H, k =>
    let go (ts : ATs) : Res := match barB C o.op || (quietB C ts o.op && (blindB C ts o.op || steadyB C ops (exemptB ops ts (lookId C ts o.op)) (ops.size - (r.length + 1)))) with
      | true => match barB C o.op && isVC o.op with
        | true => aOpK C ts o.op H (fun v H1 => aIf (watchB H H1 (watchIds ops ts)) (aDrawK C ops r (ts.put o.dst v) H1 k) none) (fun _ _ => none)
        | false => aOpK C ts o.op H (fun v H => aDrawK C ops r (ts.put o.dst v) H k) (fun _ _ => none)
      | false => none
    let skip (ts : ATs) : Res := aDrawK C ops r (ts.put o.dst (.tup [])) H k
    match dstOk C.nt o.dst with
    | false => none
    | true =>
    match o.guard with
    | none => go ts
    | some (j, want) => match guardSlot ops j with
      | none => none
      | some t => match ts.get t with
        | .bool b => match want with
          | true => aIf b (go (ts.put (some t) (.bool true))) (skip (ts.put (some t) (.bool false)))
          | false => aIf b (skip (ts.put (some t) (.bool true))) (go (ts.put (some t) (.bool false)))
        | .tup [] => skip ts
        | _ => none

def aIterK : Nat → (ATs → AH → KC → Res) → ATs → AH → KC → Res
  | 0, _, _, _, _ => none
  | n + 1, body, ts, H, k => body ts H fun e ts H => match e with
    | .normal => aIterK n body ts H k
    | e => k e ts H

def loopId : Code → Nat
  | .region id _ _ => id
  | .seq a _ => loopId a
  | .block _ b => loopId b
  | .cond _ a _ => loopId a
  | .loop b => loopId b
  | .scope b => loopId b
  | _ => 0

def trimK (C : Ctx) (id : Nat) (ts : ATs) : ATs :=
  match C.keep id with
  | some l => ts.trim l
  | none => ts

/-- The key under which a loop's head keeps its temporaries. -/
def headKey (b : Code) : Nat := 1000000 + loopId b

/-- What a loop over a function has left to do. -/
def jumpK (pend : Option Code) (ts : ATs) (H : AH) (k : KC) : Res :=
  match pend with
  | none => k .normal ts H
  | some .ret => k .ret ts H
  | some (.exit id) => k (.exit id) ts H
  | _ => none

mutual
/-- Does it name rows of the first h alone? -/
def AV.upto (h : Nat) : AV → Bool
  | .ptr id _ _ => Nat.blt id h
  | .sl id _ _ _ _ => Nat.blt id h
  | .yld id => Nat.blt id h
  | .mp id => Nat.blt id h
  | .fn _ a b => AV.uptoL h a && AV.uptoL h b
  | .iface _ v => v.upto h
  | .agg cs => AV.uptoL h cs
  | .tup vs => AV.uptoL h vs
  | _ => true
def AV.uptoL (h : Nat) : List AV → Bool
  | [] => true
  | v :: r => v.upto h && AV.uptoL h r
end
def ATs.upto (h : Nat) : ATs → Bool
  | [] => true
  | (_, v) :: r => v.upto h && ATs.upto h r
def AO.upto (h : Nat) : AO → Bool
  | .cells _ cs => AV.uptoL h cs
  | .iter _ _ => true
  | .dead _ => true
  | .loop _ _ _ ts _ => ts.upto h
  | .mp _ => true
def belowH (h : Nat) : AH → Bool
  | [] => true
  | o :: r => o.upto h && belowH h r
/-- Rows that a round has laid and that nothing names any more are dropped. -/
def gcK (C : Ctx) (key h : Nat) (ts : ATs) (H : AH) (k : ATs → AH → Res) : Res :=
  match Nat.blt h H.length with
  | false => k ts H
  | true => aIf ((trimK C key ts).upto h && belowH h (H.take h)) (k (trimK C key ts) (H.take h)) (k ts H)
def gcE (h : Nat) (ts : ATs) (H : AH) (k : AH → Res) : Res :=
  match Nat.blt h H.length with
  | false => k H
  | true => aIf (ts.upto h && belowH h (H.take h)) (k (H.take h)) (k H)
def gcC (C : Ctx) (key h : Nat) (k : KC) : KC := fun e ts H => match e with
  | .normal => gcK C key h ts H (fun ts H => k .normal ts H)
  | .ret => gcE h ts H (fun H => k .ret ts H)
  | .exit id => gcE h ts H (fun H => k (.exit id) ts H)
  | e => k e ts H

/-- A loop over a function, its record under a number. -/
def rangeAtK (C : Ctx) (key : Nat) (g : Operand) (ts : ATs) (H : AH) (k : KC) : Res :=
  match evalO ts g with
  | .fn (.func f) first captured => C.call f (first ++ [.yld H.length] ++ captured) (H ++ [.loop .ready none C.nt ts key]) fun e H2 => match e with
    | .ret _ => match H2[H.length]? with
      | some (.loop st pend nt' ts' key) => match st with
        | .busy => none
        | _ => jumpK pend ts (H2.set H.length (.loop .exhausted pend nt' ts' key)) k
      | _ => none
    | .pan v => k (.pan v) ts H2
  | _ => none

def aCodeK (C : Ctx) : Code → ATs → AH → KC → Res
  | .skip, ts, H, k => k .normal ts H
  | .region id ops draw, ts, H, k => match draw with
    | false => aOpsK C ops ops.toList ts H fun e ts H => match e with
      | .normal => k .normal (trimK C id ts) H
      | e => k e ts H
    | true => match drawOk C ops (ancT ops.toList []) 0 ops.toList with
      | true => aDrawK C ops ops.toList (scrubT ops ts) H fun e ts H => match e with
        | .normal => k .normal (trimK C id ts) H
        | e => k e ts H
      | false => none
  | .seq a b, ts, H, k => aCodeK C a ts H fun e ts H => match e with
    | .normal => aCodeK C b ts H k
    | e => k e ts H
  | .cond c a b, ts, H, k => match evalO ts c with
    | .bool t => aIf t (aCodeK C a ts H k) (aCodeK C b ts H k)
    | _ => none
  | .block id b, ts, H, k => aCodeK C b ts H fun e ts H => match e with
    | .exit i => match i == id with
      | true => k .normal ts H
      | false => k (.exit i) ts H
    | e => k e ts H
  | .loop b, ts, H, k => match C.loop (loopId b) with
    | some S => S (trimK C (headKey b) ts) H k
    | none => aIterK C.fuel (fun ts H k => aCodeK C b (trimK C (headKey b) ts) H (gcC C (headKey b) H.length k)) ts H k
  | .rangeFunc g _ _ bd, ts, H, k => match C.ranges with
    | false => none
    | true => rangeAtK C (C.rkey (loopId bd)) g ts H k
  | .exit id, ts, H, k => k (.exit id) ts H
  | .ret, ts, H, k => k .ret ts H
  | _, _, _, _ => none

/-- The bodies of a code's loops. -/
def loopsOf : Code → List Code
  | .seq a b => loopsOf a ++ loopsOf b
  | .cond _ a b => loopsOf a ++ loopsOf b
  | .block _ b => loopsOf b
  | .scope b => loopsOf b
  | .loop b => b :: loopsOf b
  | _ => []

/-- A function's n-th loop. -/
def loopB (fn : Func) (n : Nat) : Code := (loopsOf (bodyOf fn)).getD n .skip

/-- A loop's body, its head's temporaries trimmed. -/
def headedK (C : Ctx) (b : Code) : ATs → AH → KC → Res := fun ts H k => aCodeK C b (trimK C (headKey b) ts) H (gcC C (headKey b) H.length k)

def numbered : Nat → List AV → ATs
  | _, [] => []
  | i, v :: r => (i, v) :: numbered (i + 1) r

def bindPs : List Tmp → List AV → ATs → ATs
  | p :: ps, a :: asg, ts => bindPs ps asg ((p, a) :: ts)
  | _, _, ts => ts

/-- What a round hands back, and what the record then says. -/
def endRoundK (l : Nat) (jump : Option Code) (H : AH) (k : KE) : Res :=
  match H[l]? with
  | some (.loop _ _ nt ts key) => match jump with
    | none => k (.ret (.bool true)) (H.set l (.loop .ready none nt ts key))
    | some j => k (.ret (.bool false)) (H.set l (.loop .done (some j) nt ts key))
  | _ => none

/-- A call of yield: a round of the loop whose record lies there, in the frame of the function that holds the loop. -/
noncomputable def roundK (C : Ctx) : Nat → List AV → AH → KE → Res := fun l args H k =>
  match H[l]? with
  | some (.loop .ready _ nt ts key) => match recTab key with
    | none => none
    | some (ps, asg, bd) => match nt == C.nt && args.length == ps.length && ps.all (fun p => decide (p < nt)) with
      | false => none
      | true => aCodeK C asg (bindPs ps args ts) H fun e ts2 H2 => match e with
        | .normal => match H2[l]? with
          | some (.loop .ready pe nt' ts' key') => aCodeK C bd ts2 (H2.set l (.loop .busy pe nt' ts' key')) fun e _ H3 => match e with
            | .normal => endRoundK l none H3 k
            | .ret => endRoundK l (some .ret) H3 k
            | .exit id => endRoundK l (some (.exit id)) H3 k
            | .pan v => match C.self with
              | some i => match Nat.ble 1000000000 key && Nat.beq ((key - 1000000000) / 10000) i with
                | true => k (.pan v) H3
                | false => none
              | none => none
          | _ => none
        | _ => none
  | _ => none

def resultsK (E : Env) (ts : ATs) (H : AH) : List ResultVar → (List AV → Res) → Res
  | [], kk => kk []
  | .tmp t :: r, kk => resultsK E ts H r fun vs => kk (ts.get t :: vs)
  | .cell a t :: r, kk => aLoadK E t (ts.get a) H fun v _ => resultsK E ts H r fun vs => kk (v :: vs)

/-- A nil slice is one of elements of any size. -/
def AV.toSz (n : Nat) (v : AV) : AV :=
  match v with
  | .fs sz xs fl => match sz with
    | 0 => match xs with
      | [] => .fs n [] fl
      | _ => v
    | _ => v
  | _ => v
def szK : CK → AV → AV
  | .slice n, v => v.toSz n
  | _, v => v
def szL : List CK → List AV → List AV
  | k :: ks, v :: vs => szK k v :: szL ks vs
  | _, vs => vs
def szT (E : Env) (t : TypeId) (v : AV) : AV :=
  match E.ti t with
  | none => v
  | some i => match v with
    | .agg cs => .agg (szL i.kinds cs)
    | v => match i.kinds with
      | [k] => szK k v
      | _ => v
def szTs (E : Env) : List TypeId → List AV → List AV
  | t :: ts, v :: vs => szT E t v :: szTs E ts vs
  | _, vs => vs

def oneOf : List AV → AV
  | [v] => v
  | vs => .tup vs

/-- A function's body. -/
def aBodyK (C : Ctx) (fn : Func) (args : List AV) (H : AH) (k : KE) : Res :=
  match fn.body with
  | none => none
  | some c => match decide (args.length ≤ C.nt) && C.nt == fn.ntmps with
    | false => none
    | true => aCodeK C c (numbered 0 args) H fun e ts H => match e with
    | .normal | .ret => resultsK C.E ts H fn.results.toList fun vs => k (.ret (oneOf (szTs C.E fn.resultTypes.toList vs))) H
    | .pan v => k (.pan v) H
    | .exit _ => none

def freezeEK (H : AH) (e : AEnd) (kk : AEnd → Res) : Res :=
  match e with
  | .ret v => freezeK H 8 v fun v => kk (.ret v)
  | .pan v => freezeK H 8 v fun v => kk (.pan v)

/-- A function's body, where it is called. -/
def inlineK (C : Ctx) (fn : Func) (args : List AV) (H : AH) (k : KE) : Res :=
  match H with
  | [] => aBodyK C fn args [] fun e H1 => freezeEK H1 e fun e => k e []
  | _ => aBodyK C fn args H k

/-- A function's body, where it is called, on the caller's rows. -/
def liveK (C : Ctx) (fn : Func) (args : List AV) (H : AH) (k : KE) : Res := aBodyK C fn args H k

abbrev FSpec := List AV → AH → KE → Res
/-- A function without parameters whose answer is known. -/
def constK (v : AV) : FSpec := fun args H k =>
  match args, H with
  | [], [] => k (.ret v) []
  | _, _ => none

def eitherK (c : List AV → Bool) (S1 S2 : FSpec) : FSpec := fun args H k => aIf (c args) (S1 args H k) (S2 args H k)

def isRec (o : Oper) : Bool :=
  match o.op with
  | .call c => match c.callee with
    | .builtin .recover => true
    | _ => false
  | _ => false

/-- A function that begins with a recover, run as a deferred call over a panic with this value. -/
def aDBodyK (C : Ctx) (fn : Func) (rv : Option AV) (args : List AV) (H : AH) (k : KE) : Res :=
  match fn.body with
  | some (.seq (.region _ ops false) c) => match ops.toList with
    | [o1, o2] => match o1.dst with
      | some d => match decide (args.length ≤ C.nt) && C.nt == fn.ntmps && isRec o1 && o1.guard.isNone && o2.guard.isNone && dstOk C.nt o1.dst && dstOk C.nt o2.dst && !C.ranges && (match o2.op with | .assign (.tmp d') => d' == d | _ => false) with
        | false => none
        | true => aCodeK C c (((numbered 0 args).put o1.dst (rv.getD .nili)).put o2.dst (rv.getD .nili)) H fun e ts H => match e with
          | .normal | .ret => resultsK C.E ts H fn.results.toList fun vs => k (.ret (oneOf (szTs C.E fn.resultTypes.toList vs))) H
          | .pan v => k (.pan v) H
          | .exit _ => none
      | none => none
    | _ => none
  | _ => none

/-- What a deferred call that recovers comes to. -/
abbrev DSpec := Option AV → List AV → AH → KE → Res

def deferOf (o : Oper) : Option (FuncId × List Operand) :=
  match o.op with
  | .defer c => match c.callee with
    | .value (.func g) => some (g, c.args.toList)
    | _ => none
  | _ => none

/-- Code with loops over functions whose rounds may panic; i: the function's number. -/
def aRangeK (C : Ctx) (i : Nat) : Code → ATs → AH → KC → Res
  | .seq a b, ts, H, k => aRangeK C i a ts H fun e ts H => match e with
    | .normal => aRangeK C i b ts H k
    | e => k e ts H
  | .block id b, ts, H, k => aRangeK C i b ts H fun e ts H => match e with
    | .exit j => match j == id with
      | true => k .normal ts H
      | false => k (.exit j) ts H
    | e => k e ts H
  | .rangeFunc g _ _ bd, ts, H, k => match Nat.ble (loopId bd) 9999 with
    | true => rangeAtK C (1000000000 + 10000 * i + loopId bd) g ts H k
    | false => none
  | c, ts, H, k => aCodeK C c ts H k

/-- A function whose second region defers a call that recovers. -/
def aDeferK (C : Ctx) (i : Nat) (D : FuncId → Option DSpec) (fn : Func) (args : List AV) (H : AH) (k : KE) : Res :=
  match fn.body with
  | some (.seq (.region i0 ops0 d0) (.seq (.region _ ops false) c)) => match ops.toList with
    | [o] => match deferOf o with
      | some (g, xs) => match D g with
        | some S => match decide (args.length ≤ C.nt) && C.nt == fn.ntmps && o.guard.isNone && o.dst.isNone with
          | false => none
          | true => aCodeK C (.region i0 ops0 d0) (numbered 0 args) H fun e ts H => match e with
            | .normal =>
              let done := fun ts (e : AEnd) H => match e with
                | .ret _ => resultsK C.E ts H fn.results.toList fun vs => k (.ret (oneOf (szTs C.E fn.resultTypes.toList vs))) H
                | .pan _ => none
              aRangeK C i c ts H fun e ts1 H => match e with
                | .normal | .ret => S none (xs.map (evalO ts)) H (done ts1)
                | .pan v => S (some v) (xs.map (evalO ts)) H (done ts1)
                | .exit _ => none
            | _ => none
        | none => none
      | none => none
    | _ => none
  | _ => none

/-- A summary, and what it made is frozen. -/
def frozenK (S : List AV → AH → KE → Res) (args : List AV) (H : AH) (k : KE) : Res :=
  match H with
  | [] => S args [] fun e H1 => freezeEK H1 e fun e => k e []
  | _ => S args H k

/-- One function is deferred. -/
def oneD (g : FuncId) (S : DSpec) : FuncId → Option DSpec := fun f => match f == g with
  | true => some S
  | false => none

/-- A table of functions. -/
def tabGet : List (FuncId × FSpec) → FuncId → Option FSpec
  | [], _ => none
  | (g, S) :: r, f => match g == f with
    | true => some S
    | false => tabGet r f

def lookN {α : Type} : List (Nat × α) → Nat → Option α
  | [], _ => none
  | (g, S) :: r, f => match g == f with
    | true => some S
    | false => lookN r f

/-- What a function of plain code is evaluated in. -/
def ctx (E : Env) (T : List (FuncId × FSpec)) (loops : List (Nat × (ATs → AH → KC → Res))) (keep : List (Nat × List Nat)) (live : List Nat) (nt fuel : Nat) : Ctx where
  E := E
  call := fun f args H k => match tabGet T f with
    | some S => S args H k
    | none => none
  loop := lookN loops
  rkey := fun n => n
  round := fun _ _ _ _ => none
  keep := lookN keep
  live := fun f => live.contains f
  calm := fun f => live.contains (f + 1000000)
  lend := fun f => live.contains (f + 3000000)
  ranges := false
  nt := nt
  fuel := fuel

/-- The same, with loops over functions; i: the function's number. -/
def Ctx.ranging (C : Ctx) (i : Nat) : Ctx := { C with ranges := true, rkey := fun n => (10000 * i + n) % 1000000000 }
noncomputable def keyAt (C : Ctx) : Code → Option (List Tmp × Code × Code)
  | .rangeFunc _ _ _ bd => recTab (C.rkey (loopId bd))
  | _ => none
/-- A context whose frames are of function i. -/
def Ctx.of (C : Ctx) (i : Nat) : Ctx := { C with self := some i }
/-- The same, where yield calls rounds of a loop in the frame of C0. -/
noncomputable def Ctx.yields (C C0 : Ctx) : Ctx := { C with round := roundK C0 }

/-- One cell of memory holds it. -/
def vone : Value → Bool
  | .agg _ | .tuple _ => false
  | _ => true

def ckOf (P : Program) (t : TypeId) : CK :=
  match P.underlying t with
  | some (.int k) => .int k
  | some .bool => .bool
  | some .string => .str
  | some (.slice e) => .slice (P.cellsOf e)
  | _ => .other

def kindsOf (P : Program) (t : TypeId) (n : Nat) : List CK :=
  match P.cellTypes P.depth t with
  | some ts => ts.map (ckOf P)
  | none => List.replicate n .other

def isAggV : Value → Bool
  | .agg _ => true
  | _ => false

/-- A type's zero value's cells. -/
def zeroOf (P : Program) (t : TypeId) (z : Value) (n : Nat) : List AV := szL (kindsOf P t n) (z.cells.toList.map ofVal1)

def tiOf (P : Program) (t : TypeId) : Option TI :=
  match P.underlying t, P.info? t with
  | some d, some info => match info.zero with
    | some z =>
      match (z.cells.size == info.size) && (zeroOf P t z info.size).all AV.one && (match isAggD d with | true => isAggV z | false => vone z && info.size == 1) with
      | true => some { desc := d, size := info.size, bytes := info.bytes, zero := zeroOf P t z info.size, eqOk := !(P.stoodInHeld t) && !(P.eqGuardType P.depth t), cmp := info.comparable, kinds := kindsOf P t info.size }
      | false => none
    | none => none
  | _, _ => none

def envOf (P : Program) : Env := ⟨(List.range P.types.size).map (tiOf P)⟩

/-- The shape of an answer. -/
inductive Sh where
  | int (k : IntKind)
  | bool
  | str
  | ints (k : IntKind)
  | fs (sz : Nat)
  | agg (l : List Sh)
  | tup (l : List Sh)
  deriving Inhabited

def inK (k : IntKind) (n : Int) : Bool := decide (k.min ≤ n) && decide (n ≤ k.max)
def intsB (k : IntKind) : List AV → Bool
  | [] => true
  | v :: r => (v.isInt k && inK k v.toInt) && intsB k r

def AV.parts : AV → List AV
  | .agg cs => cs
  | .tup vs => vs
  | _ => []

def AV.isAgg : AV → Nat → Bool
  | .agg cs, n => cs.length == n
  | _, _ => false
def AV.isTup : AV → Nat → Bool
  | .tup cs, n => cs.length == n
  | _, _ => false

mutual
def Sh.has : Sh → AV → Bool
  | .int k, v => v.isInt k && inK k v.toInt
  | .bool, v => v.isBool
  | .str, v => v.isStr
  | .ints k, v => v.isFs 1 && intsB k v.toFs
  | .fs sz, v => v.isFs sz
  | .agg l, v => v.isAgg l.length && Sh.hasL l v.parts 0
  | .tup l, v => v.isTup l.length && Sh.hasL l v.parts 0
def Sh.hasL : List Sh → List AV → Nat → Bool
  | [], _, _ => true
  | s :: r, vs, i => s.has (vs.getD i .junk) && Sh.hasL r vs (i + 1)
end

def retOf : Res → AV
  | some (.ret v, _) => v
  | _ => .junk
def selV : AV → List Nat → AV
  | v, [] => v
  | v, i :: r => selV (v.parts.getD i .junk) r
/-- A part of an answer. -/
def sel (r : Res) (p : List Nat) : AV := selV (retOf r) p

mutual
def Sh.re : Sh → Res → List Nat → AV
  | .int k, r, p => .int k (sel r p).toInt
  | .bool, r, p => .bool (sel r p).toBool
  | .str, r, p => .str (sel r p).toStr
  | .ints _, r, p => .fs 1 (sel r p).toFs (sel r p).toFl
  | .fs sz, r, p => .fs sz (sel r p).toFs (sel r p).toFl
  | .agg l, r, p => .agg (Sh.reL l r p 0)
  | .tup l, r, p => .tup (Sh.reL l r p 0)
def Sh.reL : List Sh → Res → List Nat → Nat → List AV
  | [], _, _, _ => []
  | s :: l, r, p, i => s.re r (p ++ [i]) :: Sh.reL l r p (i + 1)
end

def shOK (sh : Sh) : Res → Bool
  | some (.ret v, []) => sh.has v
  | _ => false

/-- A function of which the answer's shape is known: what it answers, taken apart. -/
def leafK (sh : Sh) (R : List AV → Res) : FSpec := fun args H k =>
  match H with
  | [] => aIf (shOK sh (R args)) (k (.ret (sh.re (R args) [])) []) none
  | _ => none
def encK : KE := fun e H => some (e, H)

end Go.Abs
