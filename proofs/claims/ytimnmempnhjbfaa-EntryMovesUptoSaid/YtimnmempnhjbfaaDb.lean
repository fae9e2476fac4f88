/-
  THE DATA LEVEL, PART B: what each operation, and each piece of code, asks and does at this level. Definitions alone.
-/
import Derived.Test.YtimnmempnhjbfaaDa
set_option linter.unusedSimpArgs false
set_option linter.unusedVariables false
namespace Go.Dl
open Go

mutual
def ofVal : Value → DVal
  | .bool b => .bool b
  | .int k n => .int k n
  | .string ⟨⟨l⟩⟩ => .str l
  | .pointer none => .nilPtr
  | .slice none 0 0 => .nilSlice
  | .map none => .nilMap
  | .nilFunc => .nilFunc
  | .nilIface => .nilIface
  | .func fn ⟨a⟩ ⟨c⟩ => .func fn (ofVals a) (ofVals c)
  | .agg ⟨l⟩ => .agg (ofVals l)
  | .tuple ⟨l⟩ => .tuple (ofVals l)
  | v => .raw v
def ofVals : List Value → List DVal
  | [] => []
  | v :: vs => ofVal v :: ofVals vs
end

def updO (env : Nat → DVal) (dst : Option Nat) (v : DVal) : Nat → DVal :=
  match dst with
  | some d => upd env d v
  | none => env

def dundef : DVal := .tuple []

def dev (G : Nat → DVal) (env : Nat → DVal) : Operand → DVal
  | .tmp t => env t
  | .const v => ofVal v
  | .global g => G g
  | .func f => .func (.func f) [] []

def devs (G : Nat → DVal) (env : Nat → DVal) : List Operand → List DVal
  | [] => []
  | x :: xs => dev G env x :: devs G env xs

/-- Is it a struct or an array? (none: no such type.) -/
def aggB (P : Program) (t : TypeId) : Option Bool :=
  match P.underlying t with
  | some (.struct _) | some (.array _ _) => some true
  | some _ => some false
  | none => none

/-- Are the sizes of a struct's fields known, of an array's elements? -/
def buildOk (P : Program) (t : TypeId) : Bool :=
  match P.underlying t with
  | some (.struct fs) => fs.toList.all fun f => (P.info? f.type).isSome
  | some (.array _ e) => (P.info? e).isSome
  | _ => false

abbrev DK := DS → Prop

def dput (dst : Option Nat) (v : DVal) (K : DK) (s : DS) : Prop := K ⟨updO s.env dst v, s.heap⟩

def dputO (dst : Option Nat) : Option DVal → DK → DS → Prop
  | some v, K, s => dput dst v K s
  | none, _, _ => False

/-- A new block; the slot gets a pointer to it, or a slice over it. -/
def DNewP (cs : List DVal) (e : TypeId) (dst : Option Nat) (K : DK) (s : DS) : Prop :=
  ∀ r, s.heap r = none → K ⟨updO s.env dst (.optr r 0), upd s.heap r (some (.cells cs e))⟩
def DNewS (cs : List DVal) (e : TypeId) (sz len cap : Nat) (dst : Option Nat) (K : DK) (s : DS) : Prop :=
  ∀ r, s.heap r = none → K ⟨updO s.env dst (.oslice sz r 0 len cap), upd s.heap r (some (.cells cs e))⟩

def zeroOf (P : Program) (t : TypeId) : Option DVal := ((P.info? t).bind (·.zero)).map ofVal

def dAlloc (e : TypeId) (dst : Option Nat) : Option DVal → DK → DS → Prop
  | some z, K, s => DNewP z.cells e dst K s
  | none, _, _ => False

def dPick (dst : Option Nat) : DVal → DVal → DVal → DK → DS → Prop
  | .bool t, a, b, K, s => dput dst (if t then a else b) K s
  | _, _, _, _, _ => False

/-- The cells of a struct or an array, out of its parts. -/
def dfill (place : Nat → Option (Nat × Nat)) (cells : List DVal) : List (Nat × DVal) → Option (List DVal)
  | [] => some cells
  | (i, v) :: rest =>
    match place i with
    | none => none
    | some (off, size) =>
      if v.cells.length = size ∧ off + v.cells.length ≤ cells.length then dfill place (cells.take off ++ v.cells ++ cells.drop (off + v.cells.length)) rest else none

def placeS (P : Program) (fields : Array Field) (i : Nat) : Option (Nat × Nat) := (fields[i]?).map fun f => (f.offset, P.cellsOf f.type)
def placeA (size : Nat) (i : Nat) : Option (Nat × Nat) := some (i * size, size)

def dBuild (P : Program) (dst : Option Nat) : Bool → Option TypeDesc → Option DVal → List (Nat × DVal) → DK → DS → Prop
  | true, some (.struct fields), some z, parts, K, s => dputO dst ((dfill (placeS P fields) z.cells parts).map .agg) K s
  | true, some (.array _ e), some z, parts, K, s => dputO dst ((dfill (placeA (P.cellsOf e)) z.cells parts).map .agg) K s
  | _, _, _, _, _, _ => False

def repl (n : Nat) (zs : List DVal) : List DVal := (List.replicate n zs).flatten

def dNewSO (e : TypeId) (sz len : Nat) (dst : Option Nat) : Option (List DVal) → DK → DS → Prop
  | some cs, K, s => DNewS cs e sz len len dst K s
  | none, _, _ => False
def dBuildSliceZ (e : TypeId) (size len : Nat) (dst : Option Nat) : Option DVal → List (Nat × DVal) → DK → DS → Prop
  | some z, parts, K, s => len * size ≤ 16777216 ∧ z.cells.length = size ∧ dNewSO e size len dst (dfill (placeA size) (repl len z.cells) parts) K s
  | none, _, _, _ => False
def dBuildSlice (P : Program) (len : Nat) (dst : Option Nat) : Option TypeDesc → List (Nat × DVal) → DK → DS → Prop
  | some (.slice e), parts, K, s => dBuildSliceZ e (P.cellsOf e) len dst (zeroOf P e) parts K s
  | _, _, _, _ => False

/-- A variable of type t read out of cells. -/
def dLoadC (size : Nat) (dst : Option Nat) : Option Bool → List DVal → Nat → DK → DS → Prop
  | some true, cs, off, K, s => off + size ≤ cs.length ∧ dput dst (.agg ((cs.drop off).take size)) K s
  | some false, cs, off, K, s => dputO dst cs[off]? K s
  | none, _, _, _, _ => False

def dLoadH (size : Nat) (ag : Option Bool) (dst : Option Nat) (off : Nat) : Option DObj → DK → DS → Prop
  | some (.cells cs _), K, s => dLoadC size dst ag cs off K s
  | _, _, _ => False

def dLoad (size : Nat) (ag : Option Bool) (dst : Option Nat) : DVal → DK → DS → Prop
  | .vptr cs off, K, s => dLoadC size dst ag cs off K s
  | .optr r off, K, s => dLoadH size ag dst off (s.heap r) K s
  | _, _, _ => False

/-- Cells with a part of them replaced. -/
def splice (cs : List DVal) (off : Nat) (vs : List DVal) : List DVal := cs.take off ++ vs ++ cs.drop (off + vs.length)

def dStoreH (size : Nat) (r off : Nat) (v : DVal) : Option DObj → DK → DS → Prop
  | some (.cells cs e), K, s => v.cells.length = size ∧ (v.cells.all (·.one)) = true ∧ off + size ≤ cs.length ∧
      K ⟨s.env, upd s.heap r (some (.cells (splice cs off v.cells) e))⟩
  | _, _, _ => False

def dStore (size : Nat) : Option Nat → DVal → DVal → DK → DS → Prop
  | none, .optr r off, v, K, s => dStoreH size r off v (s.heap r) K s
  | _, _, _, _, _ => False

def dNilCheck (dst : Option Nat) : DVal → DK → DS → Prop
  | .vptr cs off, K, s => dput dst (.vptr cs off) K s
  | .optr r off, K, s => dput dst (.optr r off) K s
  | .func (.func f) a c, K, s => dput dst (.func (.func f) a c) K s
  | .iface t v, K, s => dput dst (.iface t v) K s
  | .omap r, K, s => dput dst (.omap r) K s
  | _, _, _ => False

/-- Equality of plain values, and of pointers, functions, slices, interface values with nil (c: one of the two is a constant of the text). -/
def dEql (c : Bool) : Option TypeDesc → DVal → DVal → Option Bool
  | some .bool, .bool a, .bool b => some (a == b)
  | some (.pointer _), .nilPtr, .nilPtr => some true
  | some (.pointer _), .nilPtr, .optr _ _ => some false
  | some (.pointer _), .nilPtr, .vptr _ _ => some false
  | some (.pointer _), .optr _ _, .nilPtr => some false
  | some (.pointer _), .vptr _ _, .nilPtr => some false
  | some (.interface _), .nilIface, .iface _ _ => some false
  | some (.interface _), .iface _ _, .nilIface => some false
  | some (.interface _), .nilIface, .nilIface => if c then some true else none
  | some (.func _ _ _), .nilFunc, .nilFunc => some true
  | some (.func _ _ _), .func _ _ _, .nilFunc => some false
  | some (.func _ _ _), .nilFunc, .func _ _ _ => some false
  | some (.slice _), .nilSlice, .nilSlice => some true
  | some (.slice _), .oslice _ _ _ _ _, .nilSlice => some false
  | some (.slice _), .nilSlice, .oslice _ _ _ _ _ => some false
  | _, _, _ => none

def andO : Option Bool → Option Bool → Option Bool
  | some true, b => b
  | some false, some _ => some false
  | _, _ => none

/-- The cells of a part of type t. -/
def partCells (size off : Nat) (xs : List DVal) : Option Bool → List DVal
  | some true => (xs.drop off).take size
  | some false => (xs.drop off).take 1
  | none => []

def dEq1 : DVal → DVal → Option Bool
  | .bool a, .bool b => some (decide (a = b))
  | .int k a, .int k' b => if k = k' then some (decide (a = b)) else none
  | .str a, .str b => some (decide (a = b))
  | _, _ => none

/-- Equality of structs and arrays of plain values, part by part. -/
def dEqFs (f : TypeId → Nat → Option Bool) : List Field → Option Bool
  | [] => some true
  | x :: fs => if x.name ≠ "_" then andO (f x.type x.offset) (dEqFs f fs) else none
def dEqIs (f : Nat → Option Bool) : List Nat → Option Bool
  | [] => some true
  | i :: is => andO (f i) (dEqIs f is)

def dEqTb : List DVal → List DVal → Option Bool
  | [.bool a], [.bool b] => some (decide (a = b))
  | _, _ => none
def dEqTi : List DVal → List DVal → Option Bool
  | [.int k a], [.int k' b] => if k = k' then some (decide (a = b)) else none
  | _, _ => none
def dEqTs : List DVal → List DVal → Option Bool
  | [.str a], [.str b] => some (decide (a = b))
  | _, _ => none
def dEqTr (P : Program) (f : TypeId → List DVal → List DVal → Option Bool) (fs : List Field) (xs ys : List DVal) : Bool → Option Bool
  | true => none
  | false => dEqFs (fun u off => f u (partCells (P.cellsOf u) off xs (aggB P u)) (partCells (P.cellsOf u) off ys (aggB P u))) fs

/-- One step of it, by the type's shape. -/
def dEqTu (P : Program) (f : TypeId → List DVal → List DVal → Option Bool) (t : TypeId) (xs ys : List DVal) : Option TypeDesc → Option Bool
  | some .bool => dEqTb xs ys
  | some (.int _) => dEqTi xs ys
  | some .string => dEqTs xs ys
  | some (.struct fs) => dEqTr P f fs.toList xs ys (P.stoodInHeld t)
  | some (.array m e) => if (P.info? e).isSome then dEqIs (fun i => f e (partCells (P.cellsOf e) (i * P.cellsOf e) xs (aggB P e)) (partCells (P.cellsOf e) (i * P.cellsOf e) ys (aggB P e))) (List.range m) else none
  | _ => none

def dEqT (P : Program) : Nat → TypeId → List DVal → List DVal → Option Bool
  | 0, _, _, _ => none
  | n + 1, t, xs, ys => dEqTu P (dEqT P n) t xs ys (P.underlying t)

def dIntBin (k : IntKind) (a b : Int) (dst : Option Nat) (K : DK) (s : DS) : BinOp → Prop
  | .add => dput dst (.int k (k.wrap (a + b))) K s
  | .sub => dput dst (.int k (k.wrap (a - b))) K s
  | .mul => dput dst (.int k (k.wrap (a * b))) K s
  | .quo => b ≠ 0 ∧ dput dst (.int k (k.wrap (a.tdiv b))) K s
  | .rem => b ≠ 0 ∧ dput dst (.int k (a.tmod b)) K s
  | .and => dput dst (.int k (k.wrap (BitVec.ofInt k.bits a &&& BitVec.ofInt k.bits b).toNat)) K s
  | .or => dput dst (.int k (k.wrap (BitVec.ofInt k.bits a ||| BitVec.ofInt k.bits b).toNat)) K s
  | .xor => dput dst (.int k (k.wrap (BitVec.ofInt k.bits a ^^^ BitVec.ofInt k.bits b).toNat)) K s
  | .andNot => dput dst (.int k (k.wrap (BitVec.ofInt k.bits a &&& ~~~BitVec.ofInt k.bits b).toNat)) K s
  | .eql => dput dst (.bool (decide (a = b))) K s
  | .neq => dput dst (.bool (!decide (a = b))) K s
  | .lss => dput dst (.bool (decide (a < b))) K s
  | .leq => dput dst (.bool (decide (a ≤ b))) K s
  | .gtr => dput dst (.bool (decide (b < a))) K s
  | .geq => dput dst (.bool (decide (b ≤ a))) K s
  | _ => False

def dShift (k : IntKind) (a b : Int) (dst : Option Nat) (K : DK) (s : DS) : BinOp → Prop
  | .shl => 0 ≤ b ∧ dput dst (.int k (k.wrap (a * 2 ^ (min b.toNat k.bits)))) K s
  | .shr => 0 ≤ b ∧ dput dst (.int k (a.fdiv (2 ^ (min b.toNat k.bits)))) K s
  | _ => False

def dStrBin (a b : List UInt8) (dst : Option Nat) (K : DK) (s : DS) : BinOp → Prop
  | .add => a.length + b.length ≤ 9223372036854775807 ∧ dput dst (.str (a ++ b)) K s
  | .eql => dput dst (.bool (decide (a = b))) K s
  | .neq => dput dst (.bool (!decide (a = b))) K s
  | .lss => dput dst (.bool (Go.Op.bytesLess a b)) K s
  | .leq => dput dst (.bool (Go.Op.bytesLess a b || decide (a = b))) K s
  | .gtr => dput dst (.bool (!(Go.Op.bytesLess a b || decide (a = b)))) K s
  | .geq => dput dst (.bool (!Go.Op.bytesLess a b)) K s
  | _ => False

/-- A comparison with == (false) or != (true). -/
def eqOp : BinOp → Option Bool
  | .eql => some false
  | .neq => some true
  | _ => none
def dEqP (dst : Option Nat) : Option Bool → Option Bool → DK → DS → Prop
  | some false, some b, K, s => dput dst (.bool b) K s
  | some true, some b, K, s => dput dst (.bool (!b)) K s
  | _, _, _, _ => False

def isShift : BinOp → Bool
  | .shl | .shr => true
  | _ => false

def dBinI (op : BinOp) (k k' : IntKind) (a b : Int) (dst : Option Nat) (K : DK) (s : DS) : Bool → Prop
  | true => dShift k a b dst K s op
  | false => k = k' ∧ dIntBin k a b dst K s op

def isConst : Operand → Bool
  | .const _ => true
  | _ => false

def dBin (P : Program) (t : TypeId) (c : Bool) (op : BinOp) (dst : Option Nat) : DVal → DVal → DK → DS → Prop
  | .int k a, .int k' b, K, s => dBinI op k k' a b dst K s (isShift op)
  | .str a, .str b, K, s => dStrBin a b dst K s op
  | .agg xs, .agg ys, K, s => aggB P t = some true ∧ P.eqGuardType P.depth t = false ∧ dEqP dst (eqOp op) (dEqT P 6 t xs ys) K s
  | x, y, K, s => dEqP dst (eqOp op) (dEql c (P.underlying t) x y) K s

/-- Is it the constant nil, of a slice's type? -/
def isNilS : Operand → Bool
  | .const (.slice none 0 0) => true
  | _ => false
def isSl : Option TypeDesc → Bool
  | some (.slice _) => true
  | _ => false
/-- A slice in memory that lasts may be nil where it has no cells. -/
def dNilS (cs : List DVal) (op : BinOp) (dst : Option Nat) (K : DK) (s : DS) : Prop := ∀ b, (cs ≠ [] → b = false) → dEqP dst (eqOp op) (some b) K s
def dBinX (P : Program) (t : TypeId) (c : Bool) (op : BinOp) (dst : Option Nat) : Bool → DVal → DVal → DK → DS → Prop
  | true, .vslice cs _, _, K, s => isSl (P.underlying t) = true ∧ dNilS cs op dst K s
  | _, x, y, K, s => dBin P t c op dst x y K s

def dUn (dst : Option Nat) : UnOp → DVal → DK → DS → Prop
  | .not, .bool b, K, s => dput dst (.bool (!b)) K s
  | .neg, .int k n, K, s => dput dst (.int k (k.wrap (0 - n))) K s
  | _, _, _, _ => False

def dConvert (dst : Option Nat) : Option TypeDesc → Option TypeDesc → DVal → DK → DS → Prop
  | some _, some (.int k), .int _ n, K, s => dput dst (.int k (k.wrap n)) K s
  | some _, some .string, .str l, K, s => dput dst (.str l) K s
  | _, _, _, _, _ => False

def notIface : Option TypeDesc → Bool
  | some (.interface _) | none => false
  | _ => true

def dMakeIface (t : TypeId) (x : DVal) (dst : Option Nat) : Bool → DK → DS → Prop
  | true, K, s => dput dst (.iface t x) K s
  | false, _, _ => False

def dMakeSliceZ (e : TypeId) (size bytes : Nat) (l c : Int) (dst : Option Nat) : Option DVal → DK → DS → Prop
  | some z, K, s => 0 ≤ l ∧ l ≤ c ∧ c * (bytes : Int) ≤ 35184372088832 ∧ c < 9223372036854775808 ∧ z.cells.length = size ∧ 0 < size ∧ DNewS (repl c.toNat z.cells) e size l.toNat c.toNat dst K s
  | none, _, _ => False
def dMakeSlice (P : Program) (dst : Option Nat) : Option TypeDesc → DVal → DVal → DK → DS → Prop
  | some (.slice e), .int _ l, .int _ c, K, s => dMakeSliceZ e (P.cellsOf e) (P.bytesOf e) l c dst (zeroOf P e) K s
  | _, _, _, _, _ => False

/-- The bounds of a slice expression: the low one, the high one, what they must not pass. -/
def dLo : Option DVal → Option Int
  | none => some 0
  | some (.int _ n) => some n
  | _ => none
def dHi (len : Nat) : Option DVal → Option Int
  | none => some len
  | some (.int _ n) => some n
  | _ => none

def dSliceStr (l : List UInt8) (dst : Option Nat) (K : DK) (s : DS) : Option Int → Option Int → Prop
  | some lo, some hi => 0 ≤ lo ∧ lo ≤ hi ∧ hi ≤ l.length ∧ dput dst (.str ((l.drop lo.toNat).take (hi.toNat - lo.toNat))) K s
  | _, _ => False
def dSliceV (size : Nat) (cs : List DVal) (len : Nat) (dst : Option Nat) (K : DK) (s : DS) : Option Int → Option Int → Prop
  | some lo, some hi => 0 ≤ lo ∧ lo ≤ hi ∧ hi ≤ len ∧ dput dst (.vslice ((cs.drop (lo.toNat * size)).take ((hi.toNat - lo.toNat) * size)) (hi.toNat - lo.toNat)) K s
  | _, _ => False
def dSliceO (size r off cap : Nat) (dst : Option Nat) (K : DK) (s : DS) : Option Int → Option Int → Option Int → Prop
  | some lo, some hi, some mx => 0 ≤ lo ∧ lo ≤ hi ∧ hi ≤ mx ∧ mx ≤ cap ∧ dput dst (.oslice size r (off + lo.toNat * size) (hi.toNat - lo.toNat) (mx.toNat - lo.toNat)) K s
  | _, _, _ => False
def dSliceN (dst : Option Nat) (K : DK) (s : DS) : Option Int → Option Int → Prop
  | some lo, some hi => lo = 0 ∧ hi = 0 ∧ dput dst .nilSlice K s
  | _, _ => False

/-- A block of the call's own with that many known cells. -/
def dRoom (n : Nat) : Option DObj → Prop
  | some (.cells cs _) => n ≤ cs.length
  | _ => False

def dSlice (P : Program) (lo hi : Option DVal) (dst : Option Nat) : Option TypeDesc → DVal → Option DVal → DK → DS → Prop
  | some .string, .str l, none, K, s => dSliceStr l dst K s (dLo lo) (dHi l.length hi)
  | some (.slice e), .nilSlice, none, K, s => (P.info? e).isSome = true ∧ dSliceN dst K s (dLo lo) (dHi 0 hi)
  | some (.slice e), .vslice cs len, none, K, s => (P.info? e).isSome = true ∧ dSliceV (P.cellsOf e) cs len dst K s (dLo lo) (dHi len hi)
  | some (.slice e), .oslice sz r off len cap, none, K, s => (P.info? e).isSome = true ∧ sz = P.cellsOf e ∧ dSliceO (P.cellsOf e) r off cap dst K s (dLo lo) (dHi len hi) (some cap)
  | some (.slice e), .oslice sz r off _ cap, some m, K, s => (P.info? e).isSome = true ∧ sz = P.cellsOf e ∧ hi.isSome ∧ dSliceO (P.cellsOf e) r off cap dst K s (dLo lo) (dLo hi) (dLo (some m))
  | some (.array n e), .optr r off, none, K, s => (P.info? e).isSome = true ∧ dRoom (off + n * P.cellsOf e) (s.heap r) ∧ dSliceO (P.cellsOf e) r off n dst K s (dLo lo) (dHi n hi) (some n)
  | some (.array n e), .vptr cs off, none, K, s => (P.info? e).isSome = true ∧ off + n * P.cellsOf e ≤ cs.length ∧ dSliceV (P.cellsOf e) ((cs.drop off).take (n * P.cellsOf e)) n dst K s (dLo lo) (dHi n hi)
  | _, _, _, _, _ => False

def dPtrAdd (n : Nat) : DVal → Option DVal
  | .vptr cs off => some (.vptr cs (off + n))
  | .optr r off => some (.optr r (off + n))
  | _ => none

def dFieldAddrF (P : Program) (x : DVal) (dst : Option Nat) : Option Field → DK → DS → Prop
  | some f, K, s => 0 < P.cellsOf f.type ∧ dputO dst (dPtrAdd f.offset x) K s
  | none, _, _ => False
def dFieldAddr (P : Program) (f : Nat) (x : DVal) (dst : Option Nat) : Option TypeDesc → DK → DS → Prop
  | some (.struct fields), K, s => dFieldAddrF P x dst fields[f]? K s
  | _, _, _ => False

/-- A part of a struct's or an array's cells. -/
def dPart (size : Nat) (cs : List DVal) (off : Nat) (dst : Option Nat) : Option Bool → DK → DS → Prop
  | some true, K, s => dput dst (.agg ((cs.drop off).take size)) K s
  | some false, K, s => dputO dst cs[off]? K s
  | none, _, _ => False

def dFieldF (P : Program) (cs : List DVal) (dst : Option Nat) : Option Field → DK → DS → Prop
  | some f, K, s => dPart (P.cellsOf f.type) cs f.offset dst (aggB P f.type) K s
  | none, _, _ => False
def dField (P : Program) (f : Nat) (dst : Option Nat) : Option TypeDesc → DVal → DK → DS → Prop
  | some (.struct fields), .agg cs, K, s => dFieldF P cs dst fields[f]? K s
  | _, _, _, _ => False

def dIndexAddr (P : Program) (dst : Option Nat) : Option TypeDesc → DVal → DVal → DK → DS → Prop
  | some (.slice e), .vslice cs len, .int _ i, K, s => (P.info? e).isSome = true ∧ 0 ≤ i ∧ i < len ∧ i.toNat * P.cellsOf e < cs.length ∧ dput dst (.vptr cs (i.toNat * P.cellsOf e)) K s
  | some (.slice e), .oslice _ r off len _, .int _ i, K, s => (P.info? e).isSome = true ∧ 0 ≤ i ∧ i < len ∧ dput dst (.optr r (off + i.toNat * P.cellsOf e)) K s
  | some (.array n e), x, .int _ i, K, s => (P.info? e).isSome = true ∧ 0 ≤ i ∧ i < n ∧ dputO dst (dPtrAdd (i.toNat * P.cellsOf e) x) K s
  | _, _, _, _, _ => False

def dIndex (P : Program) (dst : Option Nat) : Option TypeDesc → DVal → DVal → DK → DS → Prop
  | some (.array n e), .agg cs, .int _ i, K, s => 0 ≤ i ∧ i < n ∧ dPart (P.cellsOf e) cs (i.toNat * P.cellsOf e) dst (aggB P e) K s
  | some .string, .str l, .int _ i, K, s => 0 ≤ i ∧ dputO dst (l[i.toNat]?.map fun b => .int .u8 b.toNat) K s
  | _, _, _, _, _ => False

def dExtract (i : Nat) (dst : Option Nat) : DVal → DK → DS → Prop
  | .tuple vs, K, s => dputO dst vs[i]? K s
  | _, _, _ => False

def dAssertZ (dst : Option Nat) : Option DVal → DK → DS → Prop
  | some z, K, s => dput dst (.tuple [z, .bool false]) K s
  | none, _, _ => False
def dAssertIs (v : DVal) (z : Option DVal) (dst : Option Nat) : Bool → Bool → DK → DS → Prop
  | true, true, K, s => dput dst (.tuple [v, .bool true]) K s
  | true, false, K, s => dAssertZ dst z K s
  | false, true, K, s => dput dst v K s
  | false, false, _, _ => False
def dTypeAssert (P : Program) (asserted : TypeId) (commaOk : Bool) (dst : Option Nat) : Bool → DVal → DK → DS → Prop
  | true, .iface t v, K, s => dAssertIs v (zeroOf P asserted) dst commaOk (decide (t = asserted)) K s
  | true, .nilIface, K, s => commaOk = true ∧ dAssertZ dst (zeroOf P asserted) K s
  | _, _, _, _ => False

def dLen (dst : Option Nat) : Option TypeDesc → DVal → DK → DS → Prop
  | some .string, .str l, K, s => dput dst (.int .i64 l.length) K s
  | some (.array n _), _, K, s => dput dst (.int .i64 n) K s
  | some (.slice _), .nilSlice, K, s => dput dst (.int .i64 0) K s
  | some (.slice _), .vslice _ n, K, s => dput dst (.int .i64 n) K s
  | some (.slice _), .oslice _ _ _ n _, K, s => dput dst (.int .i64 n) K s
  | _, _, _, _ => False

def dLenTs (P : Program) (x : DVal) (dst : Option Nat) : List TypeId → DK → DS → Prop
  | [t], K, s => dLen dst (P.underlying t) x K s
  | _, _, _ => False

/-- The cells of what is appended. -/
def srcCellsO (size n off : Nat) : Option DObj → Option (Nat × List DVal)
  | some (.cells cs _) => some (n, (cs.drop off).take (n * size))
  | _ => none
def srcCells (size : Nat) (H : DHeap) : DVal → Option (Nat × List DVal)
  | .nilSlice => some (0, [])
  | .vslice cs n => some (n, cs.take (n * size))
  | .oslice _ r off n _ => srcCellsO size n off (H r)
  | .str l => some (l.length, l.map fun b => .int .u8 b.toNat)
  | _ => none

/-- append to a slice of the call's own: in place, where its room is known; else the old block is let go. -/
def dAppendO (e : TypeId) (size bytes : Nat) (r off len lo : Nat) (n : Nat) (news : List DVal) (dst : Option Nat) (K : DK) (s : DS) : Option DObj → Prop
  | some (.cells cs e') => e' = e ∧
    (len + n ≤ lo → off + (len + n) * size ≤ cs.length ∧
        K ⟨updO s.env dst (.oslice size r off (len + n) lo), upd s.heap r (some (.cells (splice cs (off + len * size) news) e))⟩) ∧
    (¬ len + n ≤ lo → off + len * size ≤ cs.length ∧ (len + n) * bytes ≤ 35184372088832 ∧
      ∀ r' pre, upd s.heap r none r' = none → (off = 0 → pre = []) →
        K ⟨updO s.env dst (.oslice size r' pre.length (len + n) (len + n)), upd (upd s.heap r none) r' (some (.cells (pre ++ (cs.drop off).take (len * size) ++ news) e))⟩)
  | _ => False

def dAppendTo (e : TypeId) (size bytes : Nat) (n : Nat) (news : List DVal) (dst : Option Nat) : DVal → DK → DS → Prop
  | .nilSlice, K, s => (n = 0 → dput dst .nilSlice K s) ∧ (n ≠ 0 → n * bytes ≤ 35184372088832 ∧ DNewS news e size n n dst K s)
  | .oslice sz r off len lo, K, s => sz = size ∧ dAppendO e size bytes r off len lo n news dst K s (s.heap r)
  | _, _, _ => False

def dAppendN (e : TypeId) (size bytes : Nat) (x : DVal) (dst : Option Nat) : Option (Nat × List DVal) → DK → DS → Prop
  | some (n, news), K, s => news.length = n * size ∧ news.all (·.one) = true ∧ dAppendTo e size bytes n news dst x K s
  | none, _, _ => False

/-- Is it a slice's type, or a string's? -/
def notInt : Option TypeDesc → Bool
  | some (.slice _) => true
  | some .string => true
  | _ => false

def dAppend (P : Program) (u' : Bool) (x y : DVal) (dst : Option Nat) : Option TypeDesc → DK → DS → Prop
  | some (.slice e), K, s => u' = true ∧ (zeroOf P e).isSome = true ∧ (zeroOf P e).all (fun z => z.cells.length = P.cellsOf e) = true ∧ 0 < P.cellsOf e ∧ 0 < P.bytesOf e ∧ dAppendN e (P.cellsOf e) (P.bytesOf e) x dst (srcCells (P.cellsOf e) s.heap y) K s
  | _, _, _ => False

/-- cap: of a slice nothing is known but that what is known of it fits. -/
def dCap (dst : Option Nat) : Option TypeDesc → DVal → DK → DS → Prop
  | some (.slice _), .nilSlice, K, s => dput dst (.int .i64 0) K s
  | some (.slice _), .vslice _ n, K, s => ∀ c : Nat, n ≤ c → dput dst (.int .i64 c) K s
  | some (.slice _), .oslice _ _ _ n lo, K, s => ∀ c : Nat, n ≤ c → lo ≤ c → dput dst (.int .i64 c) K s
  | _, _, _, _ => False
def dCapTs (P : Program) (x : DVal) (dst : Option Nat) : List TypeId → DK → DS → Prop
  | [t], K, s => dCap dst (P.underlying t) x K s
  | _, _, _ => False

/-- append of so many zeros to nil ('append(s, make([]E, n)...)'). -/
def dAppendI (e : TypeId) (size bytes : Nat) (dst : Option Nat) : DVal → DVal → Option DVal → DK → DS → Prop
  | .nilSlice, .int .i64 n, some z, K, s => 0 ≤ n ∧ 0 < size ∧ (n = 0 → dput dst .nilSlice K s) ∧ (n ≠ 0 → n * bytes ≤ 35184372088832 ∧ n ≤ 35184372088832 ∧ z.cells.length = size ∧ DNewS (repl n.toNat z.cells) e size n.toNat n.toNat dst K s)
  | _, _, _, _, _ => False

/-- clear of a slice. -/
def dClearO (size : Nat) (r off n : Nat) (dst : Option Nat) (K : DK) (s : DS) (z : List DVal) : Option DObj → Prop
  | some (.cells cs e) => z.length = size ∧ z.all (·.one) = true ∧ off + n * size ≤ cs.length ∧ K ⟨updO s.env dst (.tuple []), upd s.heap r (some (.cells (splice cs off (repl n z)) e))⟩
  | _ => False
def dClearS (size : Nat) (dst : Option Nat) : Option DVal → DVal → DK → DS → Prop
  | some _, .nilSlice, K, s => dput dst (.tuple []) K s
  | some z, .oslice sz r off n lo, K, s => sz = size ∧ n ≤ lo ∧ dClearO size r off n dst K s z.cells (s.heap r)
  | _, _, _, _ => False
def dClear (P : Program) (dst : Option Nat) : Option TypeDesc → DVal → DK → DS → Prop
  | some (.slice e), x, K, s => dClearS (P.cellsOf e) dst (zeroOf P e) x K s
  | _, _, _, _ => False
def dClearTs (P : Program) (x : DVal) (dst : Option Nat) : List TypeId → DK → DS → Prop
  | [t], K, s => dClear P dst (P.underlying t) x K s
  | _, _, _ => False

def isIntT : Option TypeDesc → Bool
  | some (.int _) => true
  | _ => false
def dAppendX (P : Program) (x y : DVal) (dst : Option Nat) : Option TypeDesc → DK → DS → Prop
  | some (.slice e), K, s => dAppendI e (P.cellsOf e) (P.bytesOf e) dst x y (zeroOf P e) K s
  | _, _, _ => False
def dAppendU (P : Program) (x y : DVal) (dst : Option Nat) : Bool → Bool → Option TypeDesc → DK → DS → Prop
  | true, _, t, K, s => dAppendX P x y dst t K s
  | false, u', t, K, s => dAppend P u' x y dst t K s

def dAppendTs (P : Program) (x y : DVal) (dst : Option Nat) : List TypeId → DK → DS → Prop
  | [t, t'], K, s => dAppendU P x y dst (isIntT (P.underlying t')) (notInt (P.underlying t')) (P.underlying t) K s
  | _, _, _ => False

/-- Are two keys the same? -/
def dKey : DVal → DVal → Option Bool
  | .int k a, .int k' b => if k = k' then some (decide (a = b)) else none
  | .str a, .str b => some (decide (a = b))
  | .bool a, .bool b => some (decide (a = b))
  | _, _ => none
/-- The place of a key (none within: it is not there; none: it cannot be told). -/
def dFindS (i : Nat) (r : Option (Option Nat)) : Option Bool → Option (Option Nat)
  | some true => some (some i)
  | some false => r
  | none => none
def dFind (k : DVal) : List (DVal × DVal) → Nat → Option (Option Nat)
  | [], _ => some none
  | p :: es, i => dFindS i (dFind k es (i + 1)) (dKey k p.1)
/-- Is it a value of a key's type? -/
def dKeyT : Option TypeDesc → DVal → Bool
  | some (.int k), .int k' _ => decide (k = k')
  | some .string, .str _ => true
  | some .bool, .bool _ => true
  | _, _ => false

def dMapSet (es : List (DVal × DVal)) (k v : DVal) : Option Nat → List (DVal × DVal)
  | some i => es.set i (k, v)
  | none => es ++ [(k, v)]
def dMapUpdF (r : Nat) (es : List (DVal × DVal)) (k v : DVal) (K : DK) (s : DS) : Option (Option Nat) → Prop
  | some i => K ⟨s.env, upd s.heap r (some (.map (dMapSet es k v i)))⟩
  | none => False
def dMapUpdO (r : Nat) (k v : DVal) (K : DK) (s : DS) : Option DObj → Prop
  | some (.map es) => v.one = true ∧ dMapUpdF r es k v K s (dFind k es 0)
  | _ => False
def dMapUpd (P : Program) (dst : Option Nat) : Option TypeDesc → DVal → DVal → DVal → DK → DS → Prop
  | some (.map kt _), .omap r, k, v, K, s => dst = none ∧ dKeyT (P.underlying kt) k = true ∧ dMapUpdO r k v K s (s.heap r)
  | _, _, _, _, _, _ => False

def dLookR (ok : Bool) (dst : Option Nat) (v : DVal) (b : Bool) (K : DK) (s : DS) : Prop := dput dst (if ok then .tuple [v, .bool b] else v) K s
def dLookF (es : List (DVal × DVal)) (ok : Bool) (dst : Option Nat) : Option DVal → Option (Option Nat) → DK → DS → Prop
  | _, some (some i), K, s => ∃ p, es[i]? = some p ∧ dLookR ok dst p.2 true K s
  | some z, some none, K, s => dLookR ok dst z false K s
  | _, _, _, _ => False
def dLookO (z : Option DVal) (k : DVal) (ok : Bool) (dst : Option Nat) : Option DObj → DK → DS → Prop
  | some (.map es), K, s => dLookF es ok dst z (dFind k es 0) K s
  | _, _, _ => False
def dLookup (P : Program) (ok : Bool) (dst : Option Nat) : Option TypeDesc → DVal → DVal → DK → DS → Prop
  | some (.map kt e), .omap r, k, K, s => dKeyT (P.underlying kt) k = true ∧ dLookO (zeroOf P e) k ok dst (s.heap r) K s
  | some (.map kt e), .nilMap, k, K, s => dKeyT (P.underlying kt) k = true ∧ dLookF [] ok dst (zeroOf P e) (some none) K s
  | _, _, _, _, _ => False

def dMapDelS (es : List (DVal × DVal)) : Option Nat → List (DVal × DVal)
  | some i => es.eraseIdx i
  | none => es
def dMapDelF (r : Nat) (es : List (DVal × DVal)) (dst : Option Nat) (K : DK) (s : DS) : Option (Option Nat) → Prop
  | some i => K ⟨updO s.env dst (.tuple []), upd s.heap r (some (.map (dMapDelS es i)))⟩
  | none => False
def dMapDelO (r : Nat) (k : DVal) (dst : Option Nat) (K : DK) (s : DS) : Option DObj → Prop
  | some (.map es) => dMapDelF r es dst K s (dFind k es 0)
  | _ => False
def dMapDel (P : Program) (dst : Option Nat) : Option TypeDesc → DVal → DVal → DK → DS → Prop
  | some (.map kt _), .omap r, k, K, s => dKeyT (P.underlying kt) k = true ∧ dMapDelO r k dst K s (s.heap r)
  | _, _, _, _, _ => False
def dMapDelTs (P : Program) (x k : DVal) (dst : Option Nat) : List TypeId → DK → DS → Prop
  | t :: _, K, s => dMapDel P dst (P.underlying t) x k K s
  | _, _, _ => False

/-- A new map. -/
def DNewM (dst : Option Nat) (K : DK) (s : DS) : Prop :=
  ∀ r, s.heap r = none → K ⟨updO s.env dst (.omap r), upd s.heap r (some (.map []))⟩
def dMakeMap (dst : Option Nat) : Option TypeDesc → Option DVal → DK → DS → Prop
  | some (.map _ _), none, K, s => DNewM dst K s
  | some (.map _ _), some (.int _ _), K, s => DNewM dst K s
  | _, _, _, _ => False

def dMM (isMax : Bool) : DVal → DVal → Option DVal
  | .int k x, .int _ y => some (.int k (if isMax then (if y > x then y else x) else (if y < x then y else x)))
  | _, _ => none
def dMinMaxL (isMax : Bool) : Option DVal → List DVal → Option DVal
  | a, [] => a
  | some x, y :: ys => dMinMaxL isMax (dMM isMax x y) ys
  | none, _ => none
def dMinMax (isMax : Bool) : List DVal → Option DVal
  | [] => none
  | x :: rest => dMinMaxL isMax (some x) rest

def DAfter (dst : Option Nat) (K : DK) (Q : DExit → DS → Prop) (env : Nat → DVal) : DEnd → DHeap → Prop
  | .ret v, H => K ⟨updO env dst v, H⟩
  | .panic v, H => Q (.panic v) ⟨env, H⟩

def dCallV (P : Program) (G : Nat → DVal) (args : List DVal) (dst : Option Nat) (Q : DExit → DS → Prop) : DVal → DK → DS → Prop
  | .func (.func k) first captured, K, s => DCalls P G k (first ++ args ++ captured) s.heap (DAfter dst K Q s.env)
  | .func (.yield l) [] [], K, s => DYields P G l args s.heap (DAfter dst K Q s.env)
  | _, _, _ => False

def dPanic (Q : DExit → DS → Prop) (s : DS) : DVal → Prop
  | .iface t v => Q (.panic (.iface t v)) s
  | _ => False

def dBuiltin (P : Program) (ts : List TypeId) (dst : Option Nat) (Q : DExit → DS → Prop) : Builtin → List DVal → DK → DS → Prop
  | .len, [x], K, s => dLenTs P x dst ts K s
  | .append, [x, y], K, s => dAppendTs P x y dst ts K s
  | .cap, [x], K, s => dCapTs P x dst ts K s
  | .clear, [x], K, s => dClearTs P x dst ts K s
  | .delete, [x, k], K, s => dMapDelTs P x k dst ts K s
  | .min, xs, K, s => dputO dst (dMinMax false xs) K s
  | .max, xs, K, s => dputO dst (dMinMax true xs) K s
  | .panic, [x], _, s => dPanic Q s x
  | _, _, _, _ => False

def dCallee (P : Program) (G : Nat → DVal) (c : Call) (dst : Option Nat) (K : DK) (Q : DExit → DS → Prop) (s : DS) : Callee → Prop
  | .value f => dCallV P G (devs G s.env c.args.toList) dst Q (dev G s.env f) K s
  | .builtin b => dBuiltin P c.argTypes.toList dst Q b (devs G s.env c.args.toList) K s
  | .invoke _ _ => False

def dparts (G : Nat → DVal) (env : Nat → DVal) : List (Nat × Operand) → List (Nat × DVal)
  | [] => []
  | (i, x) :: ps => (i, dev G env x) :: dparts G env ps

/-- The parameters of a round. -/
def dbind (env : Nat → DVal) : List Nat → List DVal → (Nat → DVal)
  | p :: ps, d :: ds => dbind (upd env p d) ps ds
  | _, _ => env

def devO (G : Nat → DVal) (env : Nat → DVal) : Option Operand → Option DVal
  | some x => some (dev G env x)
  | none => none

def dop (P : Program) (G : Nat → DVal) (dst : Option Nat) (K : DK) (Q : DExit → DS → Prop) (s : DS) : Op → Prop
  | .move x => dput dst (dev G s.env x) K s
  | .assign x => dput dst (dev G s.env x) K s
  | .pick c a b => dPick dst (dev G s.env c) (dev G s.env a) (dev G s.env b) K s
  | .alloc e => dAlloc e dst (zeroOf P e) K s
  | .box e x => DNewP (dev G s.env x).cells e dst K s
  | .build t ps => dBuild P dst (buildOk P t) (P.underlying t) (zeroOf P t) (dparts G s.env ps.toList) K s
  | .buildSlice t n ps => dBuildSlice P n dst (P.underlying t) (dparts G s.env ps.toList) K s
  | .load t a => dLoad (P.cellsOf t) (aggB P t) dst (dev G s.env a) K s
  | .store t a x => (P.info? t).isSome = true ∧ dStore (P.cellsOf t) dst (dev G s.env a) (dev G s.env x) K s
  | .nilCheck x => dNilCheck dst (dev G s.env x) K s
  | .binOp op t x y _ => dBinX P t (isConst x || isConst y) op dst (isNilS y) (dev G s.env x) (dev G s.env y) K s
  | .unOp op _ x => dUn dst op (dev G s.env x) K s
  | .convert src t x => dConvert dst (P.underlying src) (P.underlying t) (dev G s.env x) K s
  | .makeInterface t x => dMakeIface t (dev G s.env x) dst (notIface (P.underlying t)) K s
  | .makeFunc fn fs cs => dput dst (.func fn (devs G s.env fs.toList) (devs G s.env cs.toList)) K s
  | .makeMap t r => dMakeMap dst (P.underlying t) (devO G s.env r) K s
  | .lookup t x k ok => dLookup P ok dst (P.underlying t) (dev G s.env x) (dev G s.env k) K s
  | .mapUpdate t m k x => dMapUpd P dst (P.underlying t) (dev G s.env m) (dev G s.env k) (dev G s.env x) K s
  | .makeSlice t l c => dMakeSlice P dst (P.underlying t) (dev G s.env l) (dev G s.env c) K s
  | .slice t x lo hi mx => dSlice P (devO G s.env lo) (devO G s.env hi) dst (P.underlying t) (dev G s.env x) (devO G s.env mx) K s
  | .fieldAddr t x f => dFieldAddr P f (dev G s.env x) dst (P.underlying t) K s
  | .field t x f => dField P f dst (P.underlying t) (dev G s.env x) K s
  | .indexAddr t x i => dIndexAddr P dst (P.underlying t) (dev G s.env x) (dev G s.env i) K s
  | .index t x i => dIndex P dst (P.underlying t) (dev G s.env x) (dev G s.env i) K s
  | .typeAssert x _ t ok => dTypeAssert P t ok dst (notIface (P.underlying t)) (dev G s.env x) K s
  | .extract x i => dExtract i dst (dev G s.env x) K s
  | .panic x => dPanic Q s (dev G s.env x)
  | .call c => dCallee P G c dst K Q s c.callee
  | _ => False

def dstOf : List Oper → Nat → Option Nat
  | [], _ => none
  | o :: _, 0 => o.dst
  | _ :: r, n + 1 => dstOf r n

/-- The operations of a region, in the text's order. -/
def dwps (P : Program) (G : Nat → DVal) (all : List Oper) (Q : DExit → DS → Prop) : List Oper → DS → Prop
  | [], s => Q .normal s
  | o :: rest, s =>
    match o.guard with
    | none => dop P G o.dst (dwps P G all Q rest) Q s o.op
    | some (j, b) => match dstOf all j with
      | some g => match s.env g with
        | .bool v => (v = b → dop P G o.dst (dwps P G all Q rest) Q s o.op) ∧ (v ≠ b → dput o.dst dundef (dwps P G all Q rest) s)
        | .tuple [] => dput o.dst dundef (dwps P G all Q rest) s
        | _ => False
      | none => False

/-- An operation that is guarded, by the value of its guard. -/
def dGuard (P : Program) (G : Nat → DVal) (all : List Oper) (Q : DExit → DS → Prop) (dst : Option Nat) (op : Op) (rest : List Oper) (s : DS) : Bool → DVal → Prop
  | true, .bool true => dop P G dst (dwps P G all Q rest) Q s op
  | true, .bool false => dput dst dundef (dwps P G all Q rest) s
  | false, .bool true => dput dst dundef (dwps P G all Q rest) s
  | false, .bool false => dop P G dst (dwps P G all Q rest) Q s op
  | true, .tuple [] => dput dst dundef (dwps P G all Q rest) s
  | false, .tuple [] => dput dst dundef (dwps P G all Q rest) s
  | _, _ => False

def dGuardO (P : Program) (G : Nat → DVal) (all : List Oper) (Q : DExit → DS → Prop) (dst : Option Nat) (op : Op) (rest : List Oper) (s : DS) (b : Bool) : Option Nat → Prop
  | some g => dGuard P G all Q dst op rest s b (s.env g)
  | none => False

def DSeqQ (W : DK) (Q : DExit → DS → Prop) : DExit → DS → Prop
  | .normal, s => W s
  | .exit id, s => Q (.exit id) s
  | .goto l, s => Q (.goto l) s
  | .ret, s => Q .ret s
  | .panic v, s => Q (.panic v) s

def dBlockE (Q : DExit → DS → Prop) (s : DS) (id' : Nat) : Bool → Prop
  | true => Q .normal s
  | false => Q (.exit id') s

def DBlockQ (id : Nat) (Q : DExit → DS → Prop) : DExit → DS → Prop
  | .exit id', s => dBlockE Q s id' (decide (id' = id))
  | .normal, s => Q .normal s
  | .goto l, s => Q (.goto l) s
  | .ret, s => Q .ret s
  | .panic v, s => Q (.panic v) s

/-- A scope through which the run goes without a goto. -/
def DScopeQ (Q : DExit → DS → Prop) : DExit → DS → Prop
  | .goto _, _ => False
  | .exit id, s => Q (.exit id) s
  | .normal, s => Q .normal s
  | .ret, s => Q .ret s
  | .panic v, s => Q (.panic v) s

def dCond (X Y : DK) (s : DS) : DVal → Prop
  | .bool true => X s
  | .bool false => Y s
  | _ => False

/-- The same state with less in it: blocks let go, slices of the call's own seen as memory that lasts. -/
def GhostS (G : Nat → DVal) (s s' : DS) : Prop :=
  ∀ w, SimHeap w s.heap → GOk G w s.heap → SimHeap w s'.heap ∧ (∀ b, s'.heap b ≠ none → s.heap b ≠ none) ∧ GOk G w s'.heap ∧ ∀ i x, Rel w s.heap (s.env i) x → Rel w s'.heap (s'.env i) x

/-- A loop: what holds at each round's head, and what goes down. -/
def DLoop (G : Nat → DVal) (body : (DExit → DS → Prop) → DK) (Q : DExit → DS → Prop) (s : DS) : Prop :=
  ∃ (ι : Type) (I : ι → DS → Prop) (μ : ι → Nat), (∃ i s', GhostS G s s' ∧ I i s') ∧ ∀ i s, I i s → body (DSeqQ (fun s1 => ∃ j s2, GhostS G s1 s2 ∧ I j s2 ∧ μ j < μ i) Q) s

def dwp (P : Program) (G : Nat → DVal) (N : Nat) : Code → (DExit → DS → Prop) → DS → Prop
  | .skip, Q, s => Q .normal s
  | .label _, Q, s => Q .normal s
  | .region _ ops false, Q, s => dwps P G ops.toList Q ops.toList s
  | .region id ops true, Q, s => DWp P G N (.region id ops true) Q s
  | .seq a b, Q, s => dwp P G N a (DSeqQ (dwp P G N b Q) Q) s
  | .cond c a b, Q, s => dCond (dwp P G N a Q) (dwp P G N b Q) s (dev G s.env c)
  | .block id c, Q, s => dwp P G N c (DBlockQ id Q) s
  | .loop c, Q, s => DLoop G (dwp P G N c) Q s
  | .exit id, Q, s => Q (.exit id) s
  | .goto l, Q, s => Q (.goto l) s
  | .ret, Q, s => Q .ret s
  | .rangeFunc f ps asg body, Q, s => DWp0 P G N (.rangeFunc f ps asg body) Q s
  | .scope c, Q, s => dwp P G N c (DScopeQ Q) s
  | .refuse _, _, _ => False

/-- Every slot that is named lies in the frame. -/
def opdOk (N : Nat) : Operand → Bool
  | .tmp t => decide (t < N)
  | _ => true
def operOk (N : Nat) (o : Oper) : Bool :=
  (match o.dst with | some d => decide (d < N) | none => true) && o.op.operands.all (opdOk N)
def codeOk (N : Nat) : Code → Bool
  | .region _ ops _ => ops.all (operOk N)
  | .seq a b => codeOk N a && codeOk N b
  | .cond c a b => opdOk N c && codeOk N a && codeOk N b
  | .block _ c => codeOk N c
  | .loop c => codeOk N c
  | .scope c => codeOk N c
  | .rangeFunc f _ a b => opdOk N f && codeOk N a && codeOk N b
  | _ => true

theorem dBinX_false {P : Program} {s : DS} {t : TypeId} {c : Bool} {op : BinOp} {dst : Option Nat} {x y : DVal} {K : DK} : dBinX P t c op dst false x y K s = dBin P t c op dst x y K s := by cases x <;> rfl

end Go.Dl
