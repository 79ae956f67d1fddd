/- Part of the engine that proves it: see the last text. -/
import Derived.Calls
import Derived.Still
import Derived.Orders
/- The abstract machine: data as trees, local variables as boxes; no addresses, no capacities, no order. Definitions alone. -/
namespace Go.Eng
open Go

/-- Abstract values. -/
inductive D where
  | int (k : IntKind) (n : Int)
  | bool (b : Bool)
  | str (s : List UInt8)
  | slice (tag : Option Nat) (k : Nat) (es : List D)
  | nil
  | rsl (id off len k : Nat)
  | opq
  | ptr (id off : Nat)
  | nilptr
  | ref (cs : List D) (off : Nat)
  | func (f : Nat) (cap : List D)
  | nilfunc
  | agg (cs : List D)
  | tuple (ds : List D)
  | undef

/-- Memory that outlives the activation: boxes whose address is handed on, and the marks of slices that may be appended to. -/
structure Mem where
  boxes : List (List D)
  toks : List Nat

structure Ctx where
  P : Program
  G : Nat → Option (List D)

structure St where
  sl : Nat → D
  lp : Nat → Option (Nat × Nat)
  bx : Nat → Option (List D)
  m : Mem

def upd {α : Type} (f : Nat → α) (x : Nat) (a : α) (y : Nat) : α := if y = x then a else f y
/-- Slots, out of a list. -/
def slL : List (Nat × D) → Nat → D
  | [], _ => .undef
  | (x, a) :: r, y => if y = x then a else slL r y
def opL {α : Type} : List (Nat × α) → Nat → Option α
  | [], _ => none
  | (x, a) :: r, y => if y = x then some a else opL r y
def keepS (f : Nat → D) : List Nat → List (Nat × D)
  | [] => []
  | x :: r => (x, f x) :: keepS f r
def keepO {α : Type} (f : Nat → Option α) : List Nat → List (Nat × α)
  | [] => []
  | x :: r => match f x with
    | some a => (x, a) :: keepO f r
    | none => keepO f r
def memB : List Nat → Nat → Bool
  | [], _ => false
  | y :: r, x => if y = x then true else memB r x
def keepReg (l : List Nat) : Option (Nat × Nat) → Option (Nat × Nat)
  | some (k, o) => match memB l k with | true => some (k, o) | false => none
  | none => none
def keepR (l : List Nat) (lp : Nat → Option (Nat × Nat)) (x : Nat) : Option (Nat × Nat) := keepReg l (lp x)
/-- Forget every place but these. -/
def St.keep (st : St) (l : List Nat) : St := { sl := slL (keepS st.sl l), lp := opL (keepO (keepR l st.lp) l), bx := opL (keepO st.bx l), m := st.m }

def dropReg (t : Nat) : Option (Nat × Nat) → Option (Nat × Nat)
  | some (k, o) => if k = t then none else some (k, o)
  | none => none
def dropKey (t : Nat) (lp : Nat → Option (Nat × Nat)) (x : Nat) : Option (Nat × Nat) := dropReg t (lp x)

def updReg (o : Option (Nat × Nat)) (lp : Nat → Option (Nat × Nat)) (x : Nat) : Nat → Option (Nat × Nat) :=
  match o with
  | none => lp
  | some _ => upd lp x none
def St.put (st : St) (dst : Option Nat) (d : D) : St :=
  match dst with
  | some x => { sl := upd st.sl x d, lp := updReg (st.lp x) st.lp x, bx := st.bx, m := st.m }
  | none => st

/-- Slot x holds a pointer to local box 'key'. -/
def St.putL (st : St) (x : Nat) (key off : Nat) : St := { sl := upd st.sl x .undef, lp := upd st.lp x (some (key, off)), bx := st.bx, m := st.m }

def dropIf {α : Type} (o : Option α) (x : Nat) (lp : Nat → Option (Nat × Nat)) : Nat → Option (Nat × Nat) :=
  match o with
  | none => lp
  | some _ => dropKey x lp
/-- A new local box under the key x. -/
def St.newBox (st : St) (x : Nat) (cs : List D) : St :=
  { sl := upd st.sl x .undef, lp := upd (dropIf (st.bx x) x st.lp) x (some (x, 0)), bx := upd st.bx x (some cs), m := st.m }

def constL (f : Value → Option D) : List Value → Option (List D)
  | [] => some []
  | v :: r => match f v, constL f r with
    | some d, some ds => some (d :: ds)
    | _, _ => none

/-- Constants of the text, one cell each. -/
def constC : Value → Option D
  | .int k n => some (.int k n)
  | .bool b => some (.bool b)
  | .string s => some (.str s.data.toList)
  | .slice none 0 0 => some .nil
  | .pointer none => some .nilptr
  | .nilFunc => some .nilfunc
  | _ => none
def constD : Value → Option D
  | .agg cs => (constL constC cs.toList).map .agg
  | v => constC v

def ev (X : Ctx) (st : St) : Operand → D
  | .tmp x => st.sl x
  | .const v => (constD v).getD .undef
  | .global g => match X.G g with | some cs => .ref cs 0 | none => .undef
  | .func f => .func f []

def D.cells : D → List D
  | .agg cs => cs
  | d => [d]

/-- One cell's value. -/
def D.isCell : D → Bool
  | .agg _ | .tuple _ | .undef => false
  | _ => true
/-- A value that may lie in memory. -/
def D.okC : D → Bool
  | .tuple _ | .undef => false
  | _ => true

/-! What is asked of the program's types -/
def isAgg (P : Program) (t : Nat) : Option Bool := match P.underlying t with | some (.struct _) | some (.array _ _) => some true | some _ => some false | none => none
def szOf (P : Program) (t : Nat) : Option Nat := (P.info? t).map (·.size)
def bytesOk (P : Program) (t : Nat) : Bool := match P.info? t with | some i => Nat.ble 1 i.size && Nat.ble i.bytes 4096 | none => false
def fieldOff (P : Program) (t i : Nat) : Option Nat := match P.underlying t with
  | some (.struct fs) => match fs[i]? with
    | some f => match szOf P f.type with
      | some n => bif Nat.beq n 0 then none else some f.offset
      | none => none
    | none => none
  | _ => none
def fieldTy (P : Program) (t i : Nat) : Option Nat := match P.underlying t with
  | some (.struct fs) => (fs[i]?).map (·.type)
  | _ => none
def sliceElem (P : Program) (t : Nat) : Option Nat := match P.underlying t with | some (.slice e) => some e | _ => none
def sliceSz (P : Program) (t : Nat) : Option Nat := (sliceElem P t).bind (szOf P)
def isStr (P : Program) (t : Nat) : Bool := match P.underlying t with | some .string => true | _ => false
def intTy (P : Program) (t : Nat) : Option IntKind := match P.underlying t with | some (.int k) => some k | _ => none
def isStruct (P : Program) (t : Nat) : Bool := match P.underlying t with | some (.struct fs) => fs.toList.all fun f => (szOf P f.type).isSome | _ => false
def arrElem (P : Program) (t : Nat) : Option (Nat × Nat) := match P.underlying t with | some (.array n e) => some (n, e) | _ => none
def zeroD (P : Program) (t : Nat) : Option D := ((P.info? t).bind (·.zero)).bind constD

/-- A value of type t out of a row of cells. -/
def takeD (P : Program) (t : Nat) (cs : List D) (off : Nat) : Option D :=
  match isAgg P t with
  | some true => (match szOf P t with
    | some n => bif decide (off + n ≤ cs.length) then some (.agg ((cs.drop off).take n)) else none
    | none => none)
  | some false => cs[off]?
  | none => none

def setRow (cs : List D) (off : Nat) : List D → List D
  | [] => cs
  | d :: r => setRow (cs.set off d) (off + 1) r

/-- Comparison of cells, by the field's kind: 0 an integer, 1 a bool, 2 a string. -/
def eqC : Nat → D → D → Option Bool
  | 0, .int k a, .int k' b => bif decide (k = k') then some (a == b) else none
  | 1, .bool a, .bool b => some (a == b)
  | 2, .str a, .str b => some (a == b)
  | _, _, _ => none
def eqT : List Nat → List D → List D → Option Bool
  | [], [], [] => some true
  | g :: gs, a :: x, b :: y => match eqC g a b, eqT gs x y with
    | some p, some q => some (p && q)
    | _, _ => none
  | _, _, _ => none
def tagOf (P : Program) (t : Nat) : Option Nat := match P.underlying t with
  | some (.int _) => some 0
  | some .bool => some 1
  | some .string => some 2
  | _ => none
def tagsFs (P : Program) : List Field → Nat → Option (List Nat)
  | [], _ => some []
  | f :: r, i => match decide (f.name ≠ "_") && decide (f.offset = i), tagOf P f.type, tagsFs P r (i + 1) with
    | true, some g, some gs => some (g :: gs)
    | _, _, _ => none
/-- The kinds of the cells of a struct type of plain cells that may be compared. -/
def eqTags (P : Program) (t : Nat) : Option (List Nat) := match P.underlying t with
  | some (.struct fs) => bif P.stoodInHeld t || P.eqGuardType P.depth t then none else tagsFs P fs.toList 0
  | some (.array n e) => bif P.eqGuardType P.depth t then none else (match tagOf P e, szOf P e with
    | some g, some 1 => some (List.replicate n g)
    | _, _ => none)
  | _ => none
def isBoolT (P : Program) (t : Nat) : Bool := match P.underlying t with | some .bool => true | _ => false

def binI (op : BinOp) (k : IntKind) (a b : Int) : Option D :=
  match op with
  | .add => some (.int k (k.wrap (a + b)))
  | .sub => some (.int k (k.wrap (a - b)))
  | .mul => some (.int k (k.wrap (a * b)))
  | .lss => some (.bool (decide (a < b)))
  | .leq => some (.bool (decide (a ≤ b)))
  | .gtr => some (.bool (decide (b < a)))
  | .geq => some (.bool (decide (b ≤ a)))
  | .eql => some (.bool (a == b))
  | .neq => some (.bool (a != b))
  | .quo => bif b == 0 then none else some (.int k (k.wrap (a.tdiv b)))
  | .rem => bif b == 0 then none else some (.int k (a.tmod b))
  | .and => some (.int k (k.wrap (BitVec.ofInt k.bits a &&& BitVec.ofInt k.bits b).toNat))
  | .or => some (.int k (k.wrap (BitVec.ofInt k.bits a ||| BitVec.ofInt k.bits b).toNat))
  | .xor => some (.int k (k.wrap (BitVec.ofInt k.bits a ^^^ BitVec.ofInt k.bits b).toNat))
  | .andNot => some (.int k (k.wrap (BitVec.ofInt k.bits a &&& ~~~(BitVec.ofInt k.bits b)).toNat))
  | _ => none

def eqD (P : Program) (t : Nat) (x y : D) : Option Bool :=
  match x, y with
  | .agg a, .agg b => (match eqTags P t with
    | some gs => eqT gs a b
    | none => none)
  | .bool a, .bool b => bif isBoolT P t then some (a == b) else none
  | .nil, .nil => (match sliceElem P t with | some _ => some true | none => none)
  | .slice _ _ _, .nil => (match sliceElem P t with | some _ => some false | none => none)
  | .rsl _ _ _ _, .nil => (match sliceElem P t with | some _ => some false | none => none)
  | _, _ => none

def binD (P : Program) (t : Nat) (op : BinOp) (x y : D) : Option D :=
  match x, y with
  | .int k a, .int k' b => (match op with
    | .shl => bif decide (b < 0) then none else some (.int k (k.wrap (a * 2 ^ min b.toNat k.bits)))
    | .shr => bif decide (b < 0) then none else some (.int k (a.fdiv (2 ^ min b.toNat k.bits)))
    | op => bif decide (k = k') then binI op k a b else none)
  | .str a, .str b => (match op with
    | .eql => some (.bool (a == b))
    | .neq => some (.bool (!(a == b)))
    | .add => bif decide (a.length + b.length ≤ 140737488355328) then some (.str (a ++ b)) else none
    | .lss => some (.bool (Op.bytesLess a b))
    | _ => none)
  | x, y => match op with
    | .eql => (match eqD P t x y with | some b => some (.bool b) | none => none)
    | .neq => (match eqD P t x y with | some b => some (.bool (!b)) | none => none)
    | _ => none

def unD (op : UnOp) (x : D) : Option D :=
  match op, x with
  | .not, .bool b => some (.bool (!b))
  | .neg, .int k n => some (.int k (k.wrap (0 - n)))
  | _, _ => none

/-- min and max of integers. -/
def min2 (lo : Bool) : D → D → Option D
  | .int k a, .int k' b => bif decide (k = k') then some (.int k (match lo with | true => if b < a then b else a | false => if b > a then b else a)) else none
  | _, _ => none
def minL (lo : Bool) (x : D) : List D → Option D
  | [] => (match x with | .int k a => some (.int k a) | _ => none)
  | y :: r => match min2 lo x y with | some z => minL lo z r | none => none

def pickB (c : Bool) : D → D → D
  | .bool x, .bool y => .bool (bif c then x else y)
  | a, b => bif c then a else b
def pickD (c a b : D) : Option D :=
  match c with
  | .bool c => some (match c with | true => a | false => b)
  | _ => none

def lenD : D → Option Nat
  | .slice _ _ es => some es.length
  | .nil => some 0
  | .str s => some s.length
  | _ => none

/-- Its length, at its type. -/
def lenT (P : Program) (t : Nat) : D → Option Nat
  | .slice _ _ es => (match sliceElem P t with | some _ => some es.length | none => none)
  | .rsl _ _ n _ => (match sliceElem P t with | some _ => some n | none => none)
  | .nil => (match sliceElem P t with | some _ => some 0 | none => none)
  | .str s => (match isStr P t with | true => some s.length | false => none)
  | _ => none

/-- The element of a list at an Int. -/
def atI {α : Type} (l : List α) : Int → Option α
  | .ofNat n => l[n]?
  | .negSucc _ => none

/-- A slice of bytes. -/
def bytesTy (P : Program) (t : Nat) : Bool := match sliceElem P t with
  | some e => (match intTy P e with | some .u8 => true | _ => false)
  | none => false
def byteOf : D → Option UInt8
  | .int .u8 n => some (UInt8.ofNat n.toNat)
  | _ => none
def bytesOf : List D → Option (List UInt8)
  | [] => some []
  | d :: r => match byteOf d, bytesOf r with
    | some b, some bs => some (b :: bs)
    | _, _ => none
def byteD (b : UInt8) : D := .int .u8 b.toNat
/-- string(b) -/
def strOf (m : Mem) : D → Option D
  | .nil => some (.str [])
  | .slice _ 1 es => (match bytesOf es with | some l => some (.str l) | none => none)
  | .rsl id off len 1 => (match m.boxes[id]? with
    | some cs => bif decide (off + len ≤ cs.length) then (match bytesOf ((cs.drop off).take len) with | some l => some (.str l) | none => none) else none
    | none => none)
  | _ => none

def partsD (X : Ctx) (st : St) : List (Nat × Operand) → List (Nat × D)
  | [] => []
  | (i, x) :: r => (i, ev X st x) :: partsD X st r

/-- Fill the parts into the zero cells of a struct. -/
def fillS (P : Program) (t : Nat) (cs : List D) : List (Nat × D) → Option (List D)
  | [] => some cs
  | (i, d) :: r => match fieldOff P t i, (fieldTy P t i).bind (szOf P) with
    | some off, some n => bif d.okC && decide (d.cells.length = n) && decide (off + n ≤ cs.length) then fillS P t (setRow cs off d.cells) r else none
    | _, _ => none

def fillC (k : Nat) (cs : List D) : List (Nat × D) → Option (List D)
  | [] => some cs
  | (i, d) :: r => bif d.okC && decide (d.cells.length = k) && decide (i * k + k ≤ cs.length) then fillC k (setRow cs (i * k) d.cells) r else none

def fillA (es : List D) (k : Nat) : List (Nat × D) → Option (List D)
  | [] => some es
  | (i, d) :: r => bif d.okC && decide (d.cells.length = k) && decide (i < es.length) then fillA (es.set i d) k r else none

/-- The place that a register or a value leads to: a row of cells and an offset. -/
def placeV (m : Mem) : D → Option (List D × Nat)
  | .ref cs off => some (cs, off)
  | .ptr id off => match m.boxes[id]? with | some cs => some (cs, off) | none => none
  | _ => none
def place (X : Ctx) (m : Mem) (st : St) (x : Operand) : Option (List D × Nat) :=
  match x with
  | .tmp t => match st.lp t with
    | some (key, off) => match st.bx key with | some cs => some (cs, off) | none => none
    | none => placeV m (st.sl t)
  | x => placeV m (ev X st x)

def sliceStr (s : List UInt8) (l h : Int) : Option D :=
  bif decide (0 ≤ l) && decide (l ≤ h) && decide (h ≤ s.length) then some (.str ((s.take h.toNat).drop l.toNat)) else none
def sliceSl (k : Nat) (es : List D) (l h : Int) : Option D :=
  bif decide (0 ≤ l) && decide (l ≤ h) && decide (h ≤ es.length) then some (.slice none k ((es.take h.toNat).drop l.toNat)) else none
def sliceR (id off len k : Nat) (l h : Int) : Option D :=
  bif decide (0 ≤ l) && decide (l ≤ h) && decide (h ≤ len) then (bif decide (l = h) then some (.slice none k []) else some (.rsl id (off + l.toNat * k) (h.toNat - l.toNat) k)) else none
def isZero : D → Bool
  | .int _ n => decide (n = 0)
  | _ => false
def intOr (o : Option Int) : D → Option Int
  | .int _ n => some n
  | _ => o
def optI (X : Ctx) (st : St) (z : Option Int) : Option Operand → Option Int
  | some x => match ev X st x with | .int _ n => some n | _ => none
  | none => z

/-- Operations that change no memory: the value ('m': where boxes are read). -/
def pureD (X : Ctx) (m : Mem) (st : St) : Op → Option D
  | .move x | .assign x => some (ev X st x)
  | .pick c a b => pickD (ev X st c) (ev X st a) (ev X st b)
  | .load t p => match place X m st p with
    | some (cs, off) => takeD X.P t cs off
    | none => none
  | .nilCheck x => match ev X st x with
    | .ptr a b => some (.ptr a b)
    | .ref a b => some (.ref a b)
    | .func a b => some (.func a b)
    | _ => none
  | .binOp op t x y _ => binD X.P t op (ev X st x) (ev X st y)
  | .unOp op _ x => unD op (ev X st x)
  | .convert src dst x => match bytesTy X.P src && isStr X.P dst with
    | true => strOf m (ev X st x)
    | false => match intTy X.P src, intTy X.P dst, ev X st x with
      | some _, some k, .int _ n => some (.int k (k.wrap n))
      | _, _, _ => none
  | .makeFunc (.func f) first captured => bif first.isEmpty then some (.func f (captured.toList.map (ev X st))) else none
  | .field t x i => match fieldOff X.P t i, fieldTy X.P t i, ev X st x with
    | some off, some ft, .agg cs => takeD X.P ft cs off
    | _, _, _ => none
  | .build t parts => match isStruct X.P t, zeroD X.P t with
    | true, some (.agg z) => (match fillS X.P t z (partsD X st parts.toList) with | some cs => some (.agg cs) | none => none)
    | false, some (.agg z) => (match arrElem X.P t with
      | some (_, e) => (match szOf X.P e with
        | some k => (match fillC k z (partsD X st parts.toList) with | some cs => some (.agg cs) | none => none)
        | none => none)
      | none => none)
    | _, _ => none
  | .fieldAddr t x i => match fieldOff X.P t i, ev X st x with
    | some o, .ref cs off => some (.ref cs (off + o))
    | some o, .ptr id off => some (.ptr id (off + o))
    | _, _ => none
  | .indexAddr t x i => match ev X st x, ev X st i with
    | .slice _ k es, .int _ n => match sliceSz X.P t with
      | some k' => bif decide (k' = k) then (match atI es n with
        | some d => some (.ref d.cells 0)
        | none => none) else none
      | none => none
    | .rsl id off len k, .int _ n => match sliceSz X.P t with
      | some k' => bif decide (k' = k) && decide (0 ≤ n) && decide (n < len) then some (.ptr id (off + n.toNat * k)) else none
      | none => none
    | .ref cs off, .int _ n => match arrElem X.P t with
      | some (len, e) => match szOf X.P e with
        | some k => bif decide (0 ≤ n) && decide (n < len) then some (.ref cs (off + n.toNat * k)) else none
        | none => none
      | none => none
    | _, _ => none
  | .index t x i => match ev X st x, ev X st i with
    | .str s, .int _ n => bif isStr X.P t then (match atI s n with
      | some b => some (.int .u8 b.toNat)
      | none => none) else none
    | .agg cs, .int _ n => match arrElem X.P t with
      | some (len, e) => match szOf X.P e with
        | some k => bif decide (0 ≤ n) && decide (n < len) then takeD X.P e cs (n.toNat * k) else none
        | none => none
      | none => none
    | _, _ => none
  | .extract x i => match ev X st x with
    | .tuple ds => ds[i]?
    | _ => none
  | .slice t x low high none => match ev X st x with
    | .str s => match isStr X.P t, optI X st (some 0) low, optI X st (some s.length) high with
      | true, some l, some h => sliceStr s l h
      | _, _, _ => none
    | .slice _ k es => match sliceSz X.P t, optI X st (some 0) low, optI X st (some es.length) high with
      | some k', some l, some h => bif decide (k' = k) then sliceSl k es l h else none
      | _, _, _ => none
    | .rsl id off len k => match sliceSz X.P t, optI X st (some 0) low, optI X st (some len) high with
      | some k', some l, some h => bif decide (k' = k) then sliceR id off len k l h else none
      | _, _, _ => none
    | .nil => match sliceSz X.P t, optI X st (some 0) low, optI X st (some 0) high with
      | some _, some l, some h => bif decide (l = 0) && decide (h = 0) then some .nil else none
      | _, _, _ => none
    | _ => none
  | .slice t x none (some h) (some m) => match ev X st x with
    | .slice _ _ _ => (match sliceSz X.P t with
      | some k => bif isZero (ev X st h) && isZero (ev X st m) then some (.slice (some 0) k []) else none
      | none => none)
    | .rsl _ _ _ _ => (match sliceSz X.P t with
      | some k => bif isZero (ev X st h) && isZero (ev X st m) then some (.slice (some 0) k []) else none
      | none => none)
    | .nil => (match sliceSz X.P t with
      | some _ => bif isZero (ev X st h) && isZero (ev X st m) then some .nil else none
      | none => none)
    | _ => none
  | .call { callee := .builtin .len, args, argTypes } => match args.toList, argTypes.toList with
    | [x], [t] => (match lenT X.P t (ev X st x) with | some n => some (.int .i64 n) | none => none)
    | _, _ => none
  | .call { callee := .builtin .min, args, argTypes := _ } => match args.toList with
    | x :: r => minL true (ev X st x) (r.map (ev X st))
    | _ => none
  | .call { callee := .builtin .max, args, argTypes := _ } => match args.toList with
    | x :: r => minL false (ev X st x) (r.map (ev X st))
    | _ => none
  | _ => none

def flat : List D → List D
  | [] => []
  | d :: r => d.cells ++ flat r
/-- Append, to a slice that is nil, empty without room, or the owner of its row's end. -/
def appendD (k : Nat) (m : Mem) (s : D) (xs : List D) : Option (D × Mem) :=
  match xs with
  | [] => some (s, m)
  | _ :: _ => match s with
    | .nil => some (.slice (some (m.toks.length + 1)) k xs, { m with toks := m.toks ++ [xs.length] })
    | .slice (some 0) k' es => bif decide (k = k') then some (.slice (some (m.toks.length + 1)) k (es ++ xs), { m with toks := m.toks ++ [(es ++ xs).length] }) else none
    | .slice (some (id + 1)) k' es => match m.toks[id]? with
      | some n => bif decide (k = k') && decide (n = es.length) then some (.slice (some (id + 1)) k (es ++ xs), { m with toks := m.toks.set id (es ++ xs).length }) else none
      | none => none
    | _ => none

mutual
/-- A value without its rights: what a function that is on its own is handed, and hands back. f: what becomes of slices over boxes. -/
def stripF (f : Nat → Nat → Nat → Nat → D) : D → D
  | .slice _ k es => .slice none k (stripFL f es)
  | .rsl id off len k => f id off len k
  | .ptr _ _ => .opq
  | .ref cs o => .ref (stripFL f cs) o
  | .func g cap => .func g (stripFL f cap)
  | .agg cs => .agg (stripFL f cs)
  | .tuple ds => .tuple (stripFL f ds)
  | .int k n => .int k n
  | .bool b => .bool b
  | .str s => .str s
  | .nil => .nil
  | .opq => .opq
  | .nilptr => .nilptr
  | .nilfunc => .nilfunc
  | .undef => .undef
def stripFL (f : Nat → Nat → Nat → Nat → D) : List D → List D
  | [] => []
  | d :: r => stripF f d :: stripFL f r
end
def noR : Nat → Nat → Nat → Nat → D := fun _ _ _ _ => .opq
def strip (d : D) : D := stripF noR d
def stripL (l : List D) : List D := stripFL noR l

/-- An element of k cells. -/
def mkEl : Nat → List D → D
  | 1, [c] => c
  | _, cs => .agg cs
def chunks (k : Nat) : Nat → List D → List D
  | 0, _ => []
  | n + 1, cs => mkEl k (cs.take k) :: chunks k n (cs.drop k)
/-- The elements of a slice over a box. -/
def elemsR (m : Mem) (id off len k : Nat) : Option (List D) := match m.boxes[id]? with
  | some cs => bif decide (off + len * k ≤ cs.length) then some (chunks k len (cs.drop off)) else none
  | none => none
/-- What slices over boxes become when nobody writes the boxes any more. -/
def frzM (m : Mem) : Nat → Nat → Nat → Nat → Nat → D
  | 0 => noR
  | n + 1 => fun id off len k => match m.boxes[id]? with
    | some cs => bif decide (off + len * k ≤ cs.length) then .slice none k (chunks k len (stripFL (frzM m n) (cs.drop off))) else .opq
    | none => .opq
/-- What a function on its own hands back. -/
def frz (m : Mem) (d : D) : D := stripF (frzM m m.boxes.length) d

def elemsOf (m : Mem) (k : Nat) : D → Option (List D)
  | .rsl id off len k' => bif decide (k' = k) then elemsR m id off len k else none
  | .slice _ k' es => bif decide (k' = k) then some es else none
  | .nil => some []
  | _ => none

def zeroOk (P : Program) (e k : Nat) : Bool := match zeroD P e with | some z => z.okC && decide (z.cells.length = k) | none => false

/-- Append, into a new box: to a slice that is nil, or whose room is its length. -/
def appendB (k : Nat) (m : Mem) (s : D) (es xs : List D) : Option (D × Mem) :=
  match xs with
  | [] => (match s with | .rsl _ _ _ _ => none | _ => some (s, m))
  | _ :: _ => match s with
    | .nil => some (.rsl m.boxes.length 0 xs.length k, { m with boxes := m.boxes ++ [flat xs] })
    | .slice (some 0) _ _ => some (.rsl m.boxes.length 0 (es ++ xs).length k, { m with boxes := m.boxes ++ [flat (es ++ xs)] })
    | _ => none

/-- Operations that make memory. -/
def makeD (X : Ctx) (bx : Bool) (m : Mem) (st : St) : Op → Option (D × Mem)
  | .call { callee := .builtin .append, args, argTypes } => match args.toList, argTypes.toList with
    | [s, x], [t, u] => match sliceElem X.P t, sliceSz X.P t, sliceSz X.P u with
      | some e, some k, some k' => match bytesOk X.P e, zeroOk X.P e k, elemsOf m k (ev X st x), elemsOf m k (ev X st s) with
        | true, true, some xs, some es => bif decide (k' = k) && decide (es.length + xs.length ≤ 16777216) then (match bx with | true => appendB k m (ev X st s) es xs | false => appendD k m (ev X st s) xs) else none
        | _, _, _, _ => none
      | _, _, _ => none
    | _, _ => none
  | .convert src dst x => match isStr X.P src && bytesTy X.P dst, ev X st x with
    | true, .str s => bif decide (s.length ≤ 16777216) then some (.rsl m.boxes.length 0 s.length 1, { m with boxes := m.boxes ++ [s.map byteD] }) else none
    | _, _ => none
  | .makeSlice t l c => match sliceElem X.P t, ev X st l, ev X st c with
    | some e, .int .i64 n, .int .i64 n' => (match szOf X.P e, bytesOk X.P e, zeroD X.P e with
      | some k, true, some z => bif z.okC && decide (z.cells.length = k) && decide (0 ≤ n) && decide (n = n') && decide (n ≤ 16777216) then
          some (.rsl m.boxes.length 0 n.toNat k, { m with boxes := m.boxes ++ [flat (List.replicate n.toNat z)] }) else none
      | _, _, _ => none)
    | _, _, _ => none
  | _ => none

/-- A row of given elements: its room is its length. -/
def rowD (X : Ctx) (st : St) : Op → Option D
  | .buildSlice t len parts => match sliceElem X.P t with
    | some e => match szOf X.P e, bytesOk X.P e, zeroD X.P e with
      | some k, true, some z => bif z.okC && decide (z.cells.length = k) && decide (len * k ≤ 16777216) then (match fillA (List.replicate len z) k (partsD X st parts.toList) with
        | some es => some (.slice (some 0) k es)
        | none => none) else none
      | _, _, _ => none
    | none => none
  | _ => none

end Go.Eng
