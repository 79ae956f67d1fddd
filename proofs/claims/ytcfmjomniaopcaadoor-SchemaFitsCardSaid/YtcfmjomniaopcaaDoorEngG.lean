/- Part of the engine that proves it: see the last text. -/
import Derived.Test.YtcfmjomniaopcaaDoorEngK
/- The abstract machine as a function, with a measure of depth: what it returns, the program returns. -/
namespace Go.Eng
open Go

abbrev Call := Nat → Mem → List D → Option (D × Mem)

mutual
def eqV : D → D → Bool
  | .int k n, .int k' n' => decide (k = k') && decide (n = n')
  | .bool a, .bool b => decide (a = b)
  | .str a, .str b => decide (a = b)
  | .slice t k es, .slice t' k' es' => decide (t = t') && (decide (k = k') && eqVs es es')
  | .nil, .nil => true
  | .opq, .opq => true
  | .rsl a b c d, .rsl a' b' c' d' => decide (a = a') && (decide (b = b') && (decide (c = c') && decide (d = d')))
  | .ptr a b, .ptr a' b' => decide (a = a') && decide (b = b')
  | .nilptr, .nilptr => true
  | .ref cs o, .ref cs' o' => eqVs cs cs' && decide (o = o')
  | .func f cs, .func f' cs' => decide (f = f') && eqVs cs cs'
  | .nilfunc, .nilfunc => true
  | .agg cs, .agg cs' => eqVs cs cs'
  | .tuple cs, .tuple cs' => eqVs cs cs'
  | .undef, .undef => true
  | _, _ => false
def eqVs : List D → List D → Bool
  | [], [] => true
  | a :: r, b :: s => eqV a b && eqVs r s
  | _, _ => false
end

def preB : List (List D) → List (List D) → Bool
  | [], _ => true
  | a :: r, b :: s => eqVs a b && preB r s
  | _ :: _, [] => false
def subB (m m' : Mem) : Bool := preB m.boxes m'.boxes

section
variable {R : Type}
def callM (call : Call) (g : Nat) (ds : List D) (dst : Option Nat) (K : St → Option R) (st : St) : Option R :=
  match call g st.m ds with
  | some (r, m) => K ((st.put dst r).setM m)
  | none => none
def callMN (call : Call) (g : Nat) (ds : List D) (dst : Option Nat) (K : St → Option R) (st : St) : Option R :=
  match call g st.m ds with
  | some (r, m) => (match subB st.m m with
    | true => K ((st.put dst r).setM m)
    | false => none)
  | none => none
def pureM (X : Ctx) (o : Oper) (K : St → Option R) (st : St) : Option R :=
  match pureD X st.m st o.op with
  | some d => K (st.put o.dst d)
  | none => none
def makeM (X : Ctx) (F : Fi) (o : Oper) (K : St → Option R) (st : St) : Option R :=
  match makeD X (mkB F o.dst) st.m st o.op with
  | some (d, m) => K ((st.put o.dst d).setM m)
  | none => none

def rowM (X : Ctx) (o : Oper) (K : St → Option R) (st : St) : Option R :=
  match rowD X st o.op with
  | some d => K (st.put o.dst d)
  | none => none

def storeM (X : Ctx) (t : Nat) (p v : Operand) (K : St → Option R) (st : St) : Option R :=
  match p with
  | .tmp x => match st.lp x with
    | some (key, off) => match st.bx key, szOf X.P t with
      | some cs, some n => match (ev X st v).okC && decide ((ev X st v).cells.length = n) && decide (off + n ≤ cs.length) with
        | true => K { st with bx := upd st.bx key (some (setRow cs off (ev X st v).cells)) }
        | false => none
      | _, _ => none
    | none => match st.sl x with
      | .ptr id off => match st.m.boxes[id]?, szOf X.P t with
        | some cs, some n => match (ev X st v).okC && decide ((ev X st v).cells.length = n) && decide (off + n ≤ cs.length) with
          | true => K (st.setM { st.m with boxes := st.m.boxes.set id (setRow cs off (ev X st v).cells) })
          | false => none
        | _, _ => none
      | _ => none
  | _ => none

def allocM (F : Fi) (o : Oper) (cs : List D) (K : St → Option R) (st : St) : Option R :=
  match o.dst with
  | some x => match memB F.esc x with
    | true => K ((st.put o.dst (.ptr st.m.boxes.length 0)).setM { st.m with boxes := st.m.boxes ++ [cs] })
    | false => K (st.newBox x cs)
  | none => none


def stepM (X : Ctx) (F : Fi) (call : Call) (o : Oper) (K : St → Option R) (st : St) : Option R :=
  match o.op with
  | .alloc t => match zeroD X.P t with | some z => allocM F o z.cells K st | none => none
  | .box t v => match szOf X.P t with
    | some n => match (ev X st v).okC && decide ((ev X st v).cells.length = n) with | true => allocM F o (ev X st v).cells K st | false => none
    | none => none
  | .store t p v => match o.dst with | none => storeM X t p v K st | some _ => none
  | .call { callee := .value f, args, argTypes := _ } => match ev X st f with
    | .func g cap => match decide (g < 100000) with
      | true => callM call (ix F o.dst g) (argsD X st args.toList ++ cap) o.dst K st
      | false => none
    | _ => none
  | .call { callee := .builtin .append, args := _, argTypes := _ } => makeM X F o K st
  | .buildSlice _ _ _ => rowM X o K st
  | .call { callee := .builtin .len, args := _, argTypes := _ } | .call { callee := .builtin .min, args := _, argTypes := _ } | .call { callee := .builtin .max, args := _, argTypes := _ } => pureM X o K st
  | .fieldAddr t p i => match regOf st p with
    | some (key, off) => match fieldOff X.P t i, o.dst with
      | some n, some x => K (st.putL x key (off + n))
      | _, _ => none
    | none => pureM X o K st
  | .nilCheck p => match regOf st p with
    | some (key, off) => match o.dst with
      | some x => K (st.putL x key off)
      | none => K st
    | none => pureM X o K st
  | .makeSlice _ _ _ => makeM X F o K st
  | .convert s d _ => match isStr X.P s && bytesTy X.P d with
    | true => makeM X F o K st
    | false => pureM X o K st
  | .makeFunc _ _ b => pureM X o K (promoteL st b.toList)
  | .move _ | .assign _ | .pick _ _ _ | .load _ _ | .binOp _ _ _ _ _ | .unOp _ _ _ | .field _ _ _ | .build _ _
  | .indexAddr _ _ _ | .index _ _ _ | .extract _ _ | .slice _ _ _ _ _ => pureM X o K st
  | _ => none

def opM (X : Ctx) (F : Fi) (call : Call) (all : List Oper) (o : Oper) (K : St → Option R) (st : St) : Option R :=
  match o.guard with
  | none => stepM X F call o K st
  | some (j, want) => match guardI all st j with
    | some (some b) => (match eqB want b with
      | true => stepM X F call o K st
      | false => K (st.put o.dst (.tuple [])))
    | some none => K (st.put o.dst (.tuple []))
    | none => none

def opsM (X : Ctx) (F : Fi) (call : Call) (all : List Oper) : List Oper → (St → Option R) → St → Option R
  | [], K, st => K st
  | o :: r, K, st => opM X F call all o (opsM X F call all r K) st

def pureMN (X : Ctx) (m0 : Mem) (o : Oper) (K : St → Option R) (st : St) : Option R :=
  match pureD X m0 st o.op with
  | some d => K (st.put o.dst d)
  | none => none

def allocMN (F : Fi) (o : Oper) (cs : List D) (K : St → Option R) (st : St) : Option R :=
  match o.dst with
  | some x => match memB F.esc x with
    | true => K ((st.put o.dst (.ptr st.m.boxes.length 0)).setM { st.m with boxes := st.m.boxes ++ [cs] })
    | false => match st.bx x with
      | none => K (st.newBox x cs)
      | some _ => none
  | none => none

def storeMN (X : Ctx) (F : Fi) (t : Nat) (p v : Operand) (K : St → Option R) (st : St) : Option R :=
  match locOk F st p with
  | true => match regOf st p with
    | some (key, off) => match st.bx key, szOf X.P t with
      | some cs, some n => match (ev X st v).okC && decide ((ev X st v).cells.length = n) && decide (off + n ≤ cs.length) with
        | true => K { st with bx := upd st.bx key (some (setRow cs off (ev X st v).cells)) }
        | false => none
      | _, _ => none
    | none => match ev X st p with
      | .ptr id off => match st.m.boxes[id]?, szOf X.P t with
        | some cs, some n => match (ev X st v).okC && decide ((ev X st v).cells.length = n) && decide (off + n ≤ cs.length) with
          | true => K (st.setM { st.m with boxes := st.m.boxes.set id (setRow cs off (ev X st v).cells) })
          | false => none
        | _, _ => none
      | _ => none
  | false => none

def stepMN (X : Ctx) (F : Fi) (pf : Nat → Bool) (call : Call) (m0 : Mem) (o : Oper) (K : St → Option R) (st : St) : Option R :=
  match o.op with
  | .alloc t => match zeroD X.P t with | some z => allocMN F o z.cells K st | none => none
  | .box t v => match szOf X.P t with
    | some n => match (ev X st v).okC && decide ((ev X st v).cells.length = n) with | true => allocMN F o (ev X st v).cells K st | false => none
    | none => none
  | .store t p v => match o.dst with | none => storeMN X F t p v K st | some _ => none
  | .call { callee := .value f, args, argTypes := _ } => match pureOf pf F o.dst f with
    | some g => match call g ⟨[], []⟩ (argsD X st args.toList) with
      | some (d, _) => K (st.put o.dst d)
      | none => none
    | none => match ev X st f with
      | .func g cap => match decide (g < 100000) with
        | true => callMN call (ix F o.dst g) (argsD X st args.toList ++ cap) o.dst K st
        | false => none
      | _ => none
  | .call { callee := .builtin .append, args := _, argTypes := _ } => makeM X F o K st
  | .buildSlice _ _ _ => rowM X o K st
  | .call { callee := .builtin .len, args := _, argTypes := _ } | .call { callee := .builtin .min, args := _, argTypes := _ } | .call { callee := .builtin .max, args := _, argTypes := _ } => pureMN X m0 o K st
  | .fieldAddr t p i => match regOf st p with
    | some (key, off) => match fieldOff X.P t i, o.dst with
      | some n, some x => K (st.putL x key (off + n))
      | _, _ => none
    | none => pureMN X m0 o K st
  | .nilCheck p => match regOf st p with
    | some (key, off) => match o.dst with
      | some x => K (st.putL x key off)
      | none => K st
    | none => pureMN X m0 o K st
  | .load _ p => match locOk F st p with
    | true => pureMN X m0 o K st
    | false => none
  | .makeSlice _ _ _ => makeM X F o K st
  | .convert s d _ => match isStr X.P s && bytesTy X.P d with
    | true => makeM X F o K st
    | false => pureMN X m0 o K st
  | .move _ | .assign _ | .pick _ _ _ | .binOp _ _ _ _ _ | .unOp _ _ _ | .makeFunc _ _ _ | .field _ _ _ | .build _ _
  | .indexAddr _ _ _ | .index _ _ _ | .extract _ _ | .slice _ _ _ _ _ => pureMN X m0 o K st
  | _ => none

def opMN (X : Ctx) (F : Fi) (pf : Nat → Bool) (call : Call) (m0 : Mem) (all : List Oper) (o : Oper) (K : St → Option R) (st : St) : Option R :=
  match o.guard with
  | none => stepMN X F pf call m0 o K st
  | some (j, want) => match guardI all st j with
    | some (some b) => (match eqB want b with
      | true => stepMN X F pf call m0 o K st
      | false => K (st.put o.dst (.tuple [])))
    | some none => K (st.put o.dst (.tuple []))
    | none => none

def opsMN (X : Ctx) (F : Fi) (pf : Nat → Bool) (call : Call) (m0 : Mem) (all : List Oper) : List Oper → (St → Option R) → St → Option R
  | [], K, st => K st
  | o :: r, K, st => opMN X F pf call m0 all o (opsMN X F pf call m0 all r K) st

end

/-! Values made plain (for the kernel's sake: it computes no more than it is asked) -/
def forceN {α : Type} (n : Nat) (k : Nat → α) : α :=
  match n with
  | 0 => k 0
  | m + 1 => k (m + 1)
def forceI {α : Type} (n : Int) (k : Int → α) : α :=
  match n with
  | .ofNat m => forceN m fun m => k (.ofNat m)
  | .negSucc m => forceN m fun m => k (.negSucc m)
def forceD {α : Type} (d : D) (k : D → α) : α :=
  match d with
  | .int kk n => forceI n fun n => k (.int kk n)
  | .bool b => (match b with | true => k (.bool true) | false => k (.bool false))
  | .str s => k (.str s)
  | .slice t kk es => k (.slice t kk es)
  | .nil => k .nil
  | .opq => k .opq
  | .rsl a b c d => forceN a fun a => forceN b fun b => forceN c fun c => k (.rsl a b c d)
  | .ptr a b => k (.ptr a b)
  | .nilptr => k .nilptr
  | .ref cs o => forceN o fun o => k (.ref cs o)
  | .func f cs => k (.func f cs)
  | .nilfunc => k .nilfunc
  | .agg cs => k (.agg cs)
  | .tuple ds => k (.tuple ds)
  | .undef => k .undef
def forceL {α : Type} : List D → (List D → α) → α
  | [], k => k []
  | d :: r, k => forceD d fun d => forceL r fun r => k (d :: r)
def forceNs {α : Type} : List Nat → (List Nat → α) → α
  | [], k => k []
  | d :: r, k => forceN d fun d => forceNs r fun r => k (d :: r)
def forceLs {α : Type} : List (List D) → (List (List D) → α) → α
  | [], k => k []
  | d :: r, k => forceL d fun d => forceLs r fun r => k (d :: r)
def forceM {α : Type} (m : Mem) (k : Mem → α) : α :=
  forceLs m.boxes fun b => forceNs m.toks fun t => k ⟨b, t⟩
def forceS {α : Type} : List (Nat × D) → (List (Nat × D) → α) → α
  | [], k => k []
  | (x, d) :: r, k => forceD d fun d => forceS r fun r => k ((x, d) :: r)
def forceP {α : Type} : List (Nat × (Nat × Nat)) → (List (Nat × (Nat × Nat)) → α) → α
  | [], k => k []
  | (x, (a, b)) :: r, k => forceN a fun a => forceN b fun b => forceP r fun r => k ((x, (a, b)) :: r)
def forceB {α : Type} : List (Nat × List D) → (List (Nat × List D) → α) → α
  | [], k => k []
  | (x, d) :: r, k => forceL d fun d => forceB r fun r => k ((x, d) :: r)
def keepF {α : Type} (st : St) (l : List Nat) (k : St → α) : α :=
  forceS (keepS st.sl l) fun a => forceP (keepO (keepR l st.lp) l) fun b => forceB (keepO st.bx l) fun c => forceM st.m fun m => k ⟨slL a, opL b, opL c, m⟩

theorem forceN_eq {α : Type} (n : Nat) (k : Nat → α) : forceN n k = k n := by cases n <;> rfl
theorem forceI_eq {α : Type} (n : Int) (k : Int → α) : forceI n k = k n := by cases n <;> simp only [forceI, forceN_eq]
theorem forceD_eq {α : Type} (d : D) (k : D → α) : forceD d k = k d := by
  cases d with
  | int kk n => simp only [forceD, forceI_eq]
  | bool b => cases b <;> rfl
  | ref cs o => simp only [forceD, forceN_eq]
  | rsl a b c d => simp only [forceD, forceN_eq]
  | _ => rfl
theorem forceL_eq {α : Type} : ∀ (l : List D) (k : List D → α), forceL l k = k l
  | [], _ => rfl
  | d :: r, k => by simp only [forceL, forceD_eq, forceL_eq r]
theorem forceNs_eq {α : Type} : ∀ (l : List Nat) (k : List Nat → α), forceNs l k = k l
  | [], _ => rfl
  | d :: r, k => by simp only [forceNs, forceN_eq, forceNs_eq r]
theorem forceLs_eq {α : Type} : ∀ (l : List (List D)) (k : List (List D) → α), forceLs l k = k l
  | [], _ => rfl
  | d :: r, k => by simp only [forceLs, forceL_eq, forceLs_eq r]
theorem forceM_eq {α : Type} (m : Mem) (k : Mem → α) : forceM m k = k m := by simp only [forceM, forceLs_eq, forceNs_eq]
theorem forceS_eq {α : Type} : ∀ (l : List (Nat × D)) (k : List (Nat × D) → α), forceS l k = k l
  | [], _ => rfl
  | (x, d) :: r, k => by simp only [forceS, forceD_eq, forceS_eq r]
theorem forceP_eq {α : Type} : ∀ (l : List (Nat × (Nat × Nat))) (k : List (Nat × (Nat × Nat)) → α), forceP l k = k l
  | [], _ => rfl
  | (x, (a, b)) :: r, k => by simp only [forceP, forceN_eq, forceP_eq r]
theorem forceB_eq {α : Type} : ∀ (l : List (Nat × List D)) (k : List (Nat × List D) → α), forceB l k = k l
  | [], _ => rfl
  | (x, d) :: r, k => by simp only [forceB, forceL_eq, forceB_eq r]
theorem keepF_eq {α : Type} (st : St) (l : List Nat) (k : St → α) : keepF st l k = k (st.keep l) := by
  simp only [keepF, forceS_eq, forceP_eq, forceB_eq, forceM_eq]; rfl

/-- A function in the table. cl: it is on its own (it is handed no pointers, and what it makes it hands back without rights). -/
structure Fx where
  F : Fi
  n : Nat
  rs : List ResultVar
  code : Code
  cl : Bool

def endM (X : Ctx) (rs : List ResultVar) : Exit × St → Option (D × Mem)
  | (.normal, st) => (match resD X rs st with | some r => some (r, st.m) | none => none)
  | (.ret, st) => (match resD X rs st with | some r => some (r, st.m) | none => none)
  | _ => none

def bodyBy (X : Ctx) (ex : Fi → Code → St → Option (Exit × St)) (fx : Fx) (m : Mem) (ds : List D) : Option (D × Mem) :=
  forceL ds fun ds => forceM m fun m => (match ex fx.F fx.code (entry ds m) with
    | some o => endM X fx.rs o
    | none => none)
def callBy (X : Ctx) (T : Nat → Option Fx) (ex : Fi → Code → St → Option (Exit × St)) : Call := fun g m ds =>
  match T g with
  | some fx => (match Nat.ble ds.length fx.n with
    | true => (match fx.cl with
      | true => (match bodyBy X ex fx ⟨[], []⟩ (stripL ds) with
        | some (r, m') => some (frz m' r, m)
        | none => none)
      | false => bodyBy X ex fx m ds)
    | false => none)
  | none => none
/-- Which functions are on their own. -/
def pfT (T : Nat → Option Fx) (g : Nat) : Bool := match T g with | some fx => fx.cl | none => false

def thenM (o : Option (Exit × St)) (f : St → Option (Exit × St)) : Option (Exit × St) :=
  match o with
  | some (.normal, st') => f st'
  | o => o

def exec (X : Ctx) (T : Nat → Option Fx) : Nat → Fi → Code → St → Option (Exit × St)
  | 0, _, _, _ => none
  | n + 1, F, c, st => match c with
    | .skip => some (.normal, st)
    | .region id ops dr => (match dr with
      | false => opsM X F (callBy X T (exec X T n)) ops.toList ops.toList (fun st' => keepF st' F.ext fun st' => some (.normal, st')) st
      | true => (match memB F.bad id with
        | false => opsMN X F (pfT T) (callBy X T (exec X T n)) st.m ops.toList ops.toList (fun st' => keepF st' F.ext fun st' => some (.normal, st')) st
        | true => none))
    | .seq a b => thenM (exec X T n F a st) (fun st' => exec X T n F b st')
    | .cond c a b => (match ev X st c with
      | .bool t => (match t with
        | true => exec X T n F a st
        | false => exec X T n F b st)
      | _ => none)
    | .block id a => (match exec X T n F a st with
      | some (.exit id', st') => (match Nat.beq id' id with
        | true => some (.normal, st')
        | false => some (.exit id', st'))
      | o => o)
    | .exit id => some (.exit id, st)
    | .ret => some (.ret, st)
    | .loop a => keepF st (liveOf F a) fun st => thenM (exec X T n F a st) (fun st' => exec X T n F (.loop a) st')
    | _ => none

end Go.Eng
