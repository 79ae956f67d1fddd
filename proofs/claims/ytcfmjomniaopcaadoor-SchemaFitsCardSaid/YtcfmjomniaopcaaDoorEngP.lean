/- Part of the engine that proves it: see the last text. -/
import Derived.Test.YtcfmjomniaopcaaDoorEngD
namespace Go.Eng
open Go

/-- What is known of a function's slots: boxes whose address leaves; slots that outlive their region; per loop (by its first region) the slots that live at its head. -/
structure Fi where
  esc : List Nat
  ext : List Nat
  live : List (Nat × List Nat)
  bad : List Nat
  loc : List (Nat × (Nat × Nat))
  mks : List Nat
  alt : List (Nat × Nat)
  cap : List Nat

def ridOf : Code → Nat
  | .region id _ _ => id
  | .seq a _ => ridOf a
  | .cond _ a _ => ridOf a
  | .block _ a => ridOf a
  | .loop a => ridOf a
  | _ => 0
def pairOf : List (Nat × List Nat) → Nat → List Nat
  | [], _ => []
  | (i, l) :: r, j => match Nat.beq i j with | true => l | false => pairOf r j
def liveOf (F : Fi) (a : Code) : List Nat := pairOf F.live (ridOf a)

/-- What is known of the functions that are called. pf: which are on their own; pv: what those return. -/
structure CallW where
  run : Nat → Mem → List D → (D → Mem → Prop) → Prop
  pv : Nat → List D → Option D
  pf : Nat → Bool

def St.setM (st : St) (m : Mem) : St := { st with m := m }

def pureK (X : Ctx) (o : Oper) (K : St → Prop) (st : St) : Prop :=
  match pureD X st.m st o.op with
  | some d => K (st.put o.dst d)
  | none => False
/-- Is what the operation makes a box? -/
def mkB (F : Fi) (dst : Option Nat) : Bool := match dst with | some x => memB F.mks x | none => false
def makeK (X : Ctx) (F : Fi) (o : Oper) (K : St → Prop) (st : St) : Prop :=
  match makeD X (mkB F o.dst) st.m st o.op with
  | some (d, m) => K ((st.put o.dst d).setM m)
  | none => False
def rowK (X : Ctx) (o : Oper) (K : St → Prop) (st : St) : Prop :=
  match rowD X st o.op with
  | some d => K (st.put o.dst d)
  | none => False
def argsD (X : Ctx) (st : St) : List Operand → List D
  | [] => []
  | x :: r => ev X st x :: argsD X st r

def regOf (st : St) : Operand → Option (Nat × Nat)
  | .tmp x => st.lp x
  | _ => none

/-- A local box is moved to memory: pointers to it become values. -/
def prS (sl : Nat → D) (lp : Nat → Option (Nat × Nat)) (k id : Nat) (y : Nat) : D := match lp y with
  | some (k', o) => if k' = k then .ptr id o else sl y
  | none => sl y
def promote (st : St) (k : Nat) : St := match st.bx k with
  | some cs => ⟨prS st.sl st.lp k st.m.boxes.length, dropKey k st.lp, upd st.bx k none, { st.m with boxes := st.m.boxes ++ [cs] }⟩
  | none => st
def promote1 (st : St) : Option (Nat × Nat) → St
  | some (k, _) => promote st k
  | none => st
def promoteL (st : St) : List Operand → St
  | [] => st
  | x :: r => promoteL (promote1 st (regOf st x)) r

/-- Where the table holds what a call goes to: one function may stand in it in several variants. -/
def ix (F : Fi) (dst : Option Nat) (g : Nat) : Nat := match dst with
  | some x => (match opL F.alt x with | some v => g + v * 100000 | none => g)
  | none => g

def storeK (X : Ctx) (t : Nat) (p v : Operand) (K : St → Prop) (st : St) : Prop :=
  match p with
  | .tmp x => match st.lp x with
    | some (key, off) => match st.bx key, szOf X.P t with
      | some cs, some n => match (ev X st v).okC && decide ((ev X st v).cells.length = n) && decide (off + n ≤ cs.length) with
        | true => K { st with bx := upd st.bx key (some (setRow cs off (ev X st v).cells)) }
        | false => False
      | _, _ => False
    | none => match st.sl x with
      | .ptr id off => match st.m.boxes[id]?, szOf X.P t with
        | some cs, some n => match (ev X st v).okC && decide ((ev X st v).cells.length = n) && decide (off + n ≤ cs.length) with
          | true => K (st.setM { st.m with boxes := st.m.boxes.set id (setRow cs off (ev X st v).cells) })
          | false => False
        | _, _ => False
      | _ => False
  | _ => False

def allocK (F : Fi) (o : Oper) (cs : List D) (K : St → Prop) (st : St) : Prop :=
  match o.dst with
  | some x => match memB F.esc x with
    | true => K ((st.put o.dst (.ptr st.m.boxes.length 0)).setM { st.m with boxes := st.m.boxes ++ [cs] })
    | false => K (st.newBox x cs)
  | none => False

def stepI (X : Ctx) (F : Fi) (C : CallW) (o : Oper) (K : St → Prop) (st : St) : Prop :=
  match o.op with
  | .alloc t => match zeroD X.P t with | some z => allocK F o z.cells K st | none => False
  | .box t v => match szOf X.P t with
    | some n => match (ev X st v).okC && decide ((ev X st v).cells.length = n) with | true => allocK F o (ev X st v).cells K st | false => False
    | none => False
  | .store t p v => match o.dst with | none => storeK X t p v K st | some _ => False
  | .call { callee := .value f, args, argTypes := _ } => match ev X st f with
    | .func g cap => match decide (g < 100000) with
      | true => C.run (ix F o.dst g) st.m (argsD X st args.toList ++ cap) fun r m => K ((st.put o.dst r).setM m)
      | false => False
    | _ => False
  | .call { callee := .builtin .append, args := _, argTypes := _ } => makeK X F o K st
  | .buildSlice _ _ _ => rowK X o K st
  | .call { callee := .builtin .len, args := _, argTypes := _ } | .call { callee := .builtin .min, args := _, argTypes := _ } | .call { callee := .builtin .max, args := _, argTypes := _ } => pureK X o K st
  | .fieldAddr t p i => match regOf st p with
    | some (key, off) => match fieldOff X.P t i, o.dst with
      | some n, some x => K (st.putL x key (off + n))
      | _, _ => False
    | none => pureK X o K st
  | .nilCheck p => match regOf st p with
    | some (key, off) => match o.dst with
      | some x => K (st.putL x key off)
      | none => K st
    | none => pureK X o K st
  | .makeSlice _ _ _ => makeK X F o K st
  | .convert s d _ => match isStr X.P s && bytesTy X.P d with
    | true => makeK X F o K st
    | false => pureK X o K st
  | .makeFunc _ _ b => pureK X o K (promoteL st b.toList)
  | .move _ | .assign _ | .pick _ _ _ | .load _ _ | .binOp _ _ _ _ _ | .unOp _ _ _ | .field _ _ _ | .build _ _
  | .indexAddr _ _ _ | .index _ _ _ | .extract _ _ | .slice _ _ _ _ _ => pureK X o K st
  | _ => False

def dstFrom : List Oper → Nat → Nat → Option Nat
  | [], _, _ => none
  | o :: r, i, j => if i = j then o.dst else dstFrom r (i + 1) j

/-- What a guard has yielded: a bool; nothing (it was skipped); not known. -/
def guardV : D → Option (Option Bool)
  | .bool b => some (some b)
  | .tuple [] => some none
  | _ => none
def guardI (all : List Oper) (st : St) (j : Nat) : Option (Option Bool) :=
  match dstFrom all 0 j with
  | some x => guardV (st.sl x)
  | none => none

def eqB : Bool → Bool → Bool
  | true, b => b
  | false, true => false
  | false, false => true

def opI (X : Ctx) (F : Fi) (C : CallW) (all : List Oper) (o : Oper) (K : St → Prop) (st : St) : Prop :=
  match o.guard with
  | none => stepI X F C o K st
  | some (j, want) => match guardI all st j with
    | some (some b) => (match eqB want b with
      | true => stepI X F C o K st
      | false => K (st.put o.dst (.tuple [])))
    | some none => K (st.put o.dst (.tuple []))
    | none => False

def wpOps (X : Ctx) (F : Fi) (C : CallW) (all : List Oper) : List Oper → (St → Prop) → St → Prop
  | [], K, st => K st
  | o :: r, K, st => opI X F C all o (wpOps X F C all r K) st

/-! Regions whose order is open: what changes memory is kept apart. -/

/-- The boxes of m0 are boxes of m. -/
def Sub (m0 m : Mem) : Prop := ∀ (id : Nat) (cs : List D), m0.boxes[id]? = some cs → m.boxes[id]? = some cs

def pureN (X : Ctx) (m0 : Mem) (o : Oper) (K : St → Prop) (st : St) : Prop :=
  match pureD X m0 st o.op with
  | some d => K (st.put o.dst d)
  | none => False

def allocN (F : Fi) (o : Oper) (cs : List D) (K : St → Prop) (st : St) : Prop :=
  match o.dst with
  | some x => match memB F.esc x with
    | true => K ((st.put o.dst (.ptr st.m.boxes.length 0)).setM { st.m with boxes := st.m.boxes ++ [cs] })
    | false => match st.bx x with
      | none => K (st.newBox x cs)
      | some _ => False
  | none => False

/-- Which local box, and where in it, a pointer leads to (as the table says; of boxes that are moved to memory it says nothing). -/
def locOf (F : Fi) : Operand → Option (Nat × Nat)
  | .tmp x => (match opL F.loc x with
    | some (k, o) => (match memB F.cap k with | true => none | false => some (k, o))
    | none => none)
  | _ => none
def eqR (F : Fi) : Option (Nat × Nat) → Option (Nat × Nat) → Bool
  | none, none => true
  | some (a, b), some (c, d) => decide (a = c) && decide (b = d)
  | some (a, _), none => memB F.cap a
  | none, some _ => false
def locOk (F : Fi) (st : St) (p : Operand) : Bool := eqR F (regOf st p) (locOf F p)

def storeN (X : Ctx) (F : Fi) (t : Nat) (p v : Operand) (K : St → Prop) (st : St) : Prop :=
  match locOk F st p with
  | true => match regOf st p with
    | some (key, off) => match st.bx key, szOf X.P t with
      | some cs, some n => match (ev X st v).okC && decide ((ev X st v).cells.length = n) && decide (off + n ≤ cs.length) with
        | true => K { st with bx := upd st.bx key (some (setRow cs off (ev X st v).cells)) }
        | false => False
      | _, _ => False
    | none => match ev X st p with
      | .ptr id off => match st.m.boxes[id]?, szOf X.P t with
        | some cs, some n => match (ev X st v).okC && decide ((ev X st v).cells.length = n) && decide (off + n ≤ cs.length) with
          | true => K (st.setM { st.m with boxes := st.m.boxes.set id (setRow cs off (ev X st v).cells) })
          | false => False
        | _, _ => False
      | _ => False
  | false => False

def callN (C : CallW) (g : Nat) (ds : List D) (dst : Option Nat) (K : St → Prop) (st : St) : Prop :=
  ∃ T : D → Mem → Prop, (∃ r m, T r m) ∧ C.run g st.m ds T ∧ ∀ r m, T r m → Sub st.m m ∧ K ((st.put dst r).setM m)

/-- The callee, if it is a function on its own. -/
def pureOf (pf : Nat → Bool) (F : Fi) (dst : Option Nat) : Operand → Option Nat
  | .func g => (match decide (g < 100000) && pf (ix F dst g) with | true => some (ix F dst g) | false => none)
  | _ => none

def stepN (X : Ctx) (F : Fi) (C : CallW) (m0 : Mem) (o : Oper) (K : St → Prop) (st : St) : Prop :=
  match o.op with
  | .alloc t => match zeroD X.P t with | some z => allocN F o z.cells K st | none => False
  | .box t v => match szOf X.P t with
    | some n => match (ev X st v).okC && decide ((ev X st v).cells.length = n) with | true => allocN F o (ev X st v).cells K st | false => False
    | none => False
  | .store t p v => match o.dst with | none => storeN X F t p v K st | some _ => False
  | .call { callee := .value f, args, argTypes := _ } => match pureOf C.pf F o.dst f with
    | some g => match C.pv g (argsD X st args.toList) with
      | some d => K (st.put o.dst d)
      | none => False
    | none => match ev X st f with
      | .func g cap => match decide (g < 100000) with
        | true => callN C (ix F o.dst g) (argsD X st args.toList ++ cap) o.dst K st
        | false => False
      | _ => False
  | .call { callee := .builtin .append, args := _, argTypes := _ } => makeK X F o K st
  | .buildSlice _ _ _ => rowK X o K st
  | .call { callee := .builtin .len, args := _, argTypes := _ } | .call { callee := .builtin .min, args := _, argTypes := _ } | .call { callee := .builtin .max, args := _, argTypes := _ } => pureN X m0 o K st
  | .fieldAddr t p i => match regOf st p with
    | some (key, off) => match fieldOff X.P t i, o.dst with
      | some n, some x => K (st.putL x key (off + n))
      | _, _ => False
    | none => pureN X m0 o K st
  | .nilCheck p => match regOf st p with
    | some (key, off) => match o.dst with
      | some x => K (st.putL x key off)
      | none => K st
    | none => pureN X m0 o K st
  | .load _ p => match locOk F st p with
    | true => pureN X m0 o K st
    | false => False
  | .makeSlice _ _ _ => makeK X F o K st
  | .convert s d _ => match isStr X.P s && bytesTy X.P d with
    | true => makeK X F o K st
    | false => pureN X m0 o K st
  | .move _ | .assign _ | .pick _ _ _ | .binOp _ _ _ _ _ | .unOp _ _ _ | .makeFunc _ _ _ | .field _ _ _ | .build _ _
  | .indexAddr _ _ _ | .index _ _ _ | .extract _ _ | .slice _ _ _ _ _ => pureN X m0 o K st
  | _ => False

def opN (X : Ctx) (F : Fi) (C : CallW) (m0 : Mem) (all : List Oper) (o : Oper) (K : St → Prop) (st : St) : Prop :=
  match o.guard with
  | none => stepN X F C m0 o K st
  | some (j, want) => match guardI all st j with
    | some (some b) => (match eqB want b with
      | true => stepN X F C m0 o K st
      | false => K (st.put o.dst (.tuple [])))
    | some none => K (st.put o.dst (.tuple []))
    | none => False

def wpOpsN (X : Ctx) (F : Fi) (C : CallW) (m0 : Mem) (all : List Oper) : List Oper → (St → Prop) → St → Prop
  | [], K, st => K st
  | o :: r, K, st => opN X F C m0 all o (wpOpsN X F C m0 all r K) st

/-- What an operation touches: slots alone; it reads a local box, memory; it makes a local box; it writes cells of a local box; it makes memory; it writes memory. -/
inductive Kd where
  | pure
  | rd (k : Nat)
  | rdm
  | make
  | wr (k o n : Nat)
  | mem
  | st
def kindOf (P : Program) (pf : Nat → Bool) (F : Fi) (o : Oper) : Kd :=
  match o.op with
  | .load _ p => (match locOf F p with | some (k, _) => .rd k | none => .rdm)
  | .alloc _ | .box _ _ => (match o.dst with | some x => (match memB F.esc x with | true => .mem | false => .make) | none => .make)
  | .makeSlice _ _ _ => .mem
  | .convert s d _ => (match isStr P s && bytesTy P d with | true => .mem | false => (match bytesTy P s && isStr P d with | true => .rdm | false => .pure))
  | .store t p _ => (match locOf F p with | some (k, o) => (match szOf P t with | some n => .wr k o n | none => .st) | none => .st)
  | .call { callee := .builtin .len, args := _, argTypes := _ } => .pure
  | .call { callee := .builtin .min, args := _, argTypes := _ } => .pure
  | .call { callee := .builtin .max, args := _, argTypes := _ } => .pure
  | .call { callee := .value f, args := _, argTypes := _ } => (match pureOf pf F o.dst f with | some _ => .pure | none => .mem)
  | .call _ => .mem
  | _ => .pure
def kindsOk : Kd → Kd → Bool
  | .mem, .mem => false
  | .st, .st => false
  | .st, .mem => false
  | .mem, .st => false
  | .st, .rdm => false
  | .rdm, .st => false
  | .wr k _ _, .rd k' => !Nat.beq k k'
  | .rd k, .wr k' _ _ => !Nat.beq k k'
  | .wr k o n, .wr k' o' n' => !Nat.beq k k' || (Nat.ble (o + n) o' || Nat.ble (o' + n') o)
  | _, _ => true
def edgeTo (D : List Nat) (p : Oper) : Bool := p.after.any fun e => Region.binds .any e && memB D e.on
/-- Of what follows operation oi: each waits for it (D: what waits, and oi itself), or touches other things. -/
def clearOf (P : Program) (pf : Nat → Bool) (F : Fi) (ops : Array Oper) (oi : Oper) : List Oper → Nat → List Nat → Bool
  | [], _, _ => true
  | p :: r, j, D => match edgeTo D p with
    | true => clearOf P pf F ops oi r (j + 1) (j :: D)
    | false => oi.apart ops p && (kindsOk (kindOf P pf F oi) (kindOf P pf F p) && clearOf P pf F ops oi r (j + 1) D)
def memOk (P : Program) (pf : Nat → Bool) (F : Fi) (ops : Array Oper) : List Oper → Nat → Bool
  | [], _ => true
  | o :: r, k => (o.after.all fun e => !Region.binds .any e || Nat.blt e.on k) && (clearOf P pf F ops o r (k + 1) [k] && memOk P pf F ops r (k + 1))
/-- It reads or makes or writes memory. -/
def Kd.onMem : Kd → Bool
  | .rdm | .mem | .st => true
  | _ => false
/-- What the operations of W wait for, of those before j. -/
def waitsOf (all : List Oper) : Nat → List Nat → List Nat
  | 0, W => W
  | j + 1, W => waitsOf all j (match all.zipIdx.any (fun p => memB W p.2 && edgeTo [j] p.1) with | true => j :: W | false => W)
/-- Whatever touches memory is done when memory is written. -/
def stOk (P : Program) (pf : Nat → Bool) (F : Fi) (all : List Oper) : List Oper → Nat → Bool
  | [], _ => true
  | o :: r, k => (match kindOf P pf F o with
    | .st => all.zipIdx.all fun p => !(kindOf P pf F p.1).onMem || (Nat.beq p.2 k || memB (waitsOf all k [k]) p.2)
    | _ => true) && stOk P pf F all r (k + 1)
def lexOk (P : Program) (pf : Nat → Bool) (F : Fi) (ops : Array Oper) : Bool := P.follows .mixedOrders && (memOk P pf F ops ops.toList 0 && stOk P pf F ops.toList ops.toList 0)

abbrev Post := Exit → St → Prop
def thenP (next : St → Prop) (Q : Post) : Post
  | .normal, st => next st
  | e, st => Q e st
def blockP (id : Nat) (Q : Post) : Post
  | .exit id', st => if id' = id then Q .normal st else Q (.exit id') st
  | e, st => Q e st

def loopN (body : Post → St → Prop) (Q : Post) : Nat → St → Prop
  | 0, _ => False
  | n + 1, st => body (thenP (loopN body Q n) Q) st

def wpI (X : Ctx) (F : Fi) (C : CallW) : Code → Post → St → Prop
  | .skip, Q, st => Q .normal st
  | .region id ops dr, Q, st => match dr with
    | false => wpOps X F C ops.toList ops.toList (fun st' => Q .normal (st'.keep F.ext)) st
    | true => memB F.bad id = false ∧ wpOpsN X F C st.m ops.toList ops.toList (fun st' => Q .normal (st'.keep F.ext)) st
  | .seq a b, Q, st => wpI X F C a (thenP (wpI X F C b Q) Q) st
  | .cond c a b, Q, st => match ev X st c with
    | .bool t => match t with
      | true => wpI X F C a Q st
      | false => wpI X F C b Q st
    | _ => False
  | .block id a, Q, st => wpI X F C a (blockP id Q) st
  | .exit id, Q, st => Q (.exit id) st
  | .ret, Q, st => Q .ret st
  | .loop a, Q, st => ∃ (T : Type) (head : T → St) (I : T → Prop) (μ : T → Nat), (∃ p, st.keep (liveOf F a) = head p ∧ I p) ∧
      ∀ p, I p → wpI X F C a (thenP (fun st' => ∃ p', st'.keep (liveOf F a) = head p' ∧ I p' ∧ μ p' < μ p) Q) (head p)
  | _, _, _ => False


/-- What a function hands back. -/
def resOne (X : Ctx) (st : St) : ResultVar → Option D
  | .tmp t => some (st.sl t)
  | .cell p t => match place X st.m st (.tmp p) with
    | some (cs, off) => takeD X.P t cs off
    | none => none
def resL (X : Ctx) (st : St) : List ResultVar → Option (List D)
  | [] => some []
  | r :: rs => match resOne X st r, resL X st rs with
    | some d, some ds => some (d :: ds)
    | _, _ => none
def resD (X : Ctx) (rs : List ResultVar) (st : St) : Option D :=
  match resL X st rs with
  | some [d] => some d
  | some ds => some (.tuple ds)
  | none => none
/-- At a function's end. -/
def endP (X : Ctx) (rs : List ResultVar) (Q : D → Mem → Prop) : Post
  | .normal, st => match resD X rs st with | some r => Q r st.m | none => False
  | .ret, st => match resD X rs st with | some r => Q r st.m | none => False
  | _, _ => False
def numbered : List D → Nat → List (Nat × D)
  | [], _ => []
  | d :: r, i => (i, d) :: numbered r (i + 1)
def entry (ds : List D) (m : Mem) : St := ⟨slL (numbered ds 0), opL [], opL [], m⟩

section
variable {X : Ctx} {F : Fi} {C : CallW} {Q : Post} {st : St}
theorem wpI_seq {a b : Code} (h : wpI X F C a (thenP (wpI X F C b Q) Q) st) : wpI X F C (.seq a b) Q st := h
theorem wpI_region {id : Nat} {l : List Oper} (h : ∀ K : St → Prop, (∀ st', Q .normal st' → K st') → wpOps X F C l l (fun st' => K (st'.keep F.ext)) st) : wpI X F C (.region id l.toArray false) Q st :=
  h _ fun _ h => h
theorem wpI_regionN {id : Nat} {l : List Oper} (hl : memB F.bad id = false) (h : ∀ K : St → Prop, (∀ st', Q .normal st' → K st') → wpOpsN X F C st.m l l (fun st' => K (st'.keep F.ext)) st) : wpI X F C (.region id l.toArray true) Q st :=
  ⟨hl, h _ fun _ h => h⟩
theorem wpI_skip (h : Q .normal st) : wpI X F C .skip Q st := h
theorem wpI_block {id : Nat} {a : Code} (h : wpI X F C a (blockP id Q) st) : wpI X F C (.block id a) Q st := h
theorem wpI_exit {id : Nat} (h : Q (.exit id) st) : wpI X F C (.exit id) Q st := h
theorem wpI_ret (h : Q .ret st) : wpI X F C .ret Q st := h
theorem wpI_cond_true {c : Operand} {a b : Code} (hc : ev X st c = .bool true) (h : wpI X F C a Q st) : wpI X F C (.cond c a b) Q st := by
  simp only [wpI, hc]; exact h
theorem wpI_cond_false {c : Operand} {a b : Code} (hc : ev X st c = .bool false) (h : wpI X F C b Q st) : wpI X F C (.cond c a b) Q st := by
  simp only [wpI, hc]; exact h
theorem wpI_cond {c : Operand} {a b : Code} {t : Bool} (hc : ev X st c = .bool t) (h1 : t = true → wpI X F C a Q st) (h2 : t = false → wpI X F C b Q st) : wpI X F C (.cond c a b) Q st := by
  simp only [wpI, hc]; cases t
  · exact h2 rfl
  · exact h1 rfl
theorem thenP_normal {next : St → Prop} (h : next st) : thenP next Q .normal st := h
theorem thenP_ret {next : St → Prop} (h : Q .ret st) : thenP next Q .ret st := h
theorem thenP_exit {next : St → Prop} {id : Nat} (h : Q (.exit id) st) : thenP next Q (.exit id) st := h
theorem blockP_normal {id : Nat} (h : Q .normal st) : blockP id Q .normal st := h
theorem blockP_ret {id : Nat} (h : Q .ret st) : blockP id Q .ret st := h
theorem blockP_here {id : Nat} (h : Q .normal st) : blockP id Q (.exit id) st := by simp [blockP]; exact h
theorem blockP_far {id id' : Nat} (hn : id' ≠ id) (h : Q (.exit id') st) : blockP id Q (.exit id') st := by simp [blockP, hn]; exact h

/-- A loop by its heads: 'head p' is the state at each round's beginning. -/
theorem wpI_loop {a : Code} {T : Type} (live : List Nat) (head : T → St) (I : T → Prop) (μ : T → Nat) (p0 : T) (hl : liveOf F a = live) (h0 : st.keep live = head p0) (hI : I p0)
    (hr : ∀ p, I p → wpI X F C a (thenP (fun st' => ∃ p', st'.keep live = head p' ∧ I p' ∧ μ p' < μ p) Q) (head p)) : wpI X F C (.loop a) Q st := by
  subst hl; exact ⟨T, head, I, μ, ⟨p0, h0, hI⟩, hr⟩
end
end Go.Eng
