/- Part of the engine that proves it: see the last text. -/
import Derived.Attr
import Derived.Test.YtcfmjomniaopcaaDoorJ2
import Derived.Test.YtcfmjomniaopcaaDoorJ1
set_option linter.unusedSimpArgs false
set_option linter.unusedVariables false
/- The abstract machine as a function, with a measure of depth: what it returns, the program returns. -/
namespace Go.Eng
open Go

abbrev Call := Nat → Mem → List D → Option (D × Mem)

mutual
def eqV : D → D → Bool
  | .int k n, .int k' n' => decide (k = k') && decide (n = n')
  | .bool a, .bool b => decide (a = b)
  | .str a, .str b => decide (a = b)
  | .slice t k es, .slice t' k' es' => decide (t = t') && (decide (k = k') && eqVs es es')
  | .nil, .nil => true
  | .opq, .opq => true
  | .rsl a b c d, .rsl a' b' c' d' => decide (a = a') && (decide (b = b') && (decide (c = c') && decide (d = d')))
  | .ptr a b, .ptr a' b' => decide (a = a') && decide (b = b')
  | .nilptr, .nilptr => true
  | .ref cs o, .ref cs' o' => eqVs cs cs' && decide (o = o')
  | .func f cs, .func f' cs' => decide (f = f') && eqVs cs cs'
  | .nilfunc, .nilfunc => true
  | .agg cs, .agg cs' => eqVs cs cs'
  | .tuple cs, .tuple cs' => eqVs cs cs'
  | .undef, .undef => true
  | _, _ => false
def eqVs : List D → List D → Bool
  | [], [] => true
  | a :: r, b :: s => eqV a b && eqVs r s
  | _, _ => false
end

def preB : List (List D) → List (List D) → Bool
  | [], _ => true
  | a :: r, b :: s => eqVs a b && preB r s
  | _ :: _, [] => false
def subB (m m' : Mem) : Bool := preB m.boxes m'.boxes

section
variable {R : Type}
def callM (call : Call) (g : Nat) (ds : List D) (dst : Option Nat) (K : St → Option R) (st : St) : Option R :=
  match call g st.m ds with
  | some (r, m) => K ((st.put dst r).setM m)
  | none => none
def callMN (call : Call) (b : Bool) (g : Nat) (ds : List D) (dst : Option Nat) (K : St → Option R) (st : St) : Option R :=
  match call g st.m ds with
  | some (r, m) => (match b || subB st.m m with
    | true => K ((st.put dst r).setM m)
    | false => none)
  | none => none
def pureM (X : Ctx) (o : Oper) (K : St → Option R) (st : St) : Option R :=
  match pureD X st.m st o.op with
  | some d => K (st.put o.dst d)
  | none => none
def makeM (X : Ctx) (F : Fi) (o : Oper) (K : St → Option R) (st : St) : Option R :=
  match makeD X (mkB F o.dst) st.m st o.op with
  | some (d, m) => K ((st.put o.dst d).setM m)
  | none => none

def rowM (X : Ctx) (o : Oper) (K : St → Option R) (st : St) : Option R :=
  match rowD X st o.op with
  | some d => K (st.put o.dst d)
  | none => none

def storeM (X : Ctx) (t : Nat) (p v : Operand) (K : St → Option R) (st : St) : Option R :=
  match p with
  | .tmp x => match st.lp x with
    | some (key, off) => match st.bx key, szOf X.P t with
      | some cs, some n => match (ev X st v).okC && decide ((ev X st v).cells.length = n) && decide (off + n ≤ cs.length) with
        | true => K { st with bx := upd st.bx key (some (setRow cs off (ev X st v).cells)) }
        | false => none
      | _, _ => none
    | none => match st.sl x with
      | .ptr id off => match st.m.boxes[id]?, szOf X.P t with
        | some cs, some n => match (ev X st v).okC && decide ((ev X st v).cells.length = n) && decide (off + n ≤ cs.length) with
          | true => K (st.setM { st.m with boxes := st.m.boxes.set id (setRow cs off (ev X st v).cells) })
          | false => none
        | _, _ => none
      | _ => none
  | _ => none

def allocM (F : Fi) (o : Oper) (cs : List D) (K : St → Option R) (st : St) : Option R :=
  match o.dst with
  | some x => match memB F.esc x with
    | true => K ((st.put o.dst (.ptr st.m.boxes.length 0)).setM { st.m with boxes := st.m.boxes ++ [cs] })
    | false => K (st.newBox x cs)
  | none => none


def stepM (X : Ctx) (F : Fi) (call : Call) (o : Oper) (K : St → Option R) (st : St) : Option R :=
  match o.op with
  | .alloc t => match zeroD X.P t with | some z => allocM F o z.cells K st | none => none
  | .box t v => match szOf X.P t with
    | some n => match (ev X st v).okC && decide ((ev X st v).cells.length = n) with | true => allocM F o (ev X st v).cells K st | false => none
    | none => none
  | .store t p v => match o.dst with | none => storeM X t p v K st | some _ => none
  | .call { callee := .value f, args, argTypes := _ } => match ev X st f with
    | .func g cap => match decide (g < 100000) with
      | true => callM call (ix F o.dst g) (argsD X st args.toList ++ cap) o.dst K st
      | false => none
    | _ => none
  | .call { callee := .builtin .append, args := _, argTypes := _ } => makeM X F o K st
  | .buildSlice _ _ _ => rowM X o K st
  | .call { callee := .builtin .len, args := _, argTypes := _ } | .call { callee := .builtin .min, args := _, argTypes := _ } | .call { callee := .builtin .max, args := _, argTypes := _ } => pureM X o K st
  | .fieldAddr t p i => match regOf st p with
    | some (key, off) => match fieldOff X.P t i, o.dst with
      | some n, some x => K (st.putL x key (off + n))
      | _, _ => none
    | none => pureM X o K st
  | .nilCheck p => match regOf st p with
    | some (key, off) => match o.dst with
      | some x => K (st.putL x key off)
      | none => K st
    | none => pureM X o K st
  | .makeSlice _ _ _ => makeM X F o K st
  | .convert s d _ => match isStr X.P s && bytesTy X.P d with
    | true => makeM X F o K st
    | false => pureM X o K st
  | .makeFunc _ _ b => pureM X o K (promoteL st b.toList)
  | .move _ | .assign _ | .pick _ _ _ | .load _ _ | .binOp _ _ _ _ _ | .unOp _ _ _ | .field _ _ _ | .build _ _
  | .indexAddr _ _ _ | .index _ _ _ | .extract _ _ | .slice _ _ _ _ _ => pureM X o K st
  | _ => none

def opM (X : Ctx) (F : Fi) (call : Call) (all : List Oper) (o : Oper) (K : St → Option R) (st : St) : Option R :=
  match o.guard with
  | none => stepM X F call o K st
  | some (j, want) => match guardI all st j with
    | some (some b) => (match eqB want b with
      | true => stepM X F call o K st
      | false => K (st.put o.dst (.tuple [])))
    | some none => K (st.put o.dst (.tuple []))
    | none => none

def opsM (X : Ctx) (F : Fi) (call : Call) (all : List Oper) : List Oper → (St → Option R) → St → Option R
  | [], K, st => K st
  | o :: r, K, st => opM X F call all o (opsM X F call all r K) st

def pureMN (X : Ctx) (m0 : Mem) (o : Oper) (K : St → Option R) (st : St) : Option R :=
  match pureD X m0 st o.op with
  | some d => K (st.put o.dst d)
  | none => none

def allocMN (F : Fi) (o : Oper) (cs : List D) (K : St → Option R) (st : St) : Option R :=
  match o.dst with
  | some x => match memB F.esc x with
    | true => K ((st.put o.dst (.ptr st.m.boxes.length 0)).setM { st.m with boxes := st.m.boxes ++ [cs] })
    | false => match st.bx x with
      | none => K (st.newBox x cs)
      | some _ => none
  | none => none

def storeMN (X : Ctx) (F : Fi) (m0 : Mem) (t : Nat) (p v : Operand) (K : St → Option R) (st : St) : Option R :=
  match locOk F st p with
  | true => match regOf st p with
    | some (key, off) => match st.bx key, szOf X.P t with
      | some cs, some n => match !isFr F p && ((ev X st v).okC && decide ((ev X st v).cells.length = n) && decide (off + n ≤ cs.length)) with
        | true => K { st with bx := upd st.bx key (some (setRow cs off (ev X st v).cells)) }
        | false => none
      | _, _ => none
    | none => match ev X st p with
      | .ptr id off => match st.m.boxes[id]?, szOf X.P t with
        | some cs, some n => match frOk F m0 p id && ((ev X st v).okC && decide ((ev X st v).cells.length = n) && decide (off + n ≤ cs.length)) with
          | true => K (st.setM { st.m with boxes := st.m.boxes.set id (setRow cs off (ev X st v).cells) })
          | false => none
        | _, _ => none
      | _ => none
  | false => none

def stepMN (X : Ctx) (F : Fi) (pf : Nat → Bool) (call : Call) (m0 : Mem) (o : Oper) (K : St → Option R) (st : St) : Option R :=
  match o.op with
  | .alloc t => match zeroD X.P t with | some z => allocMN F o z.cells K st | none => none
  | .box t v => match szOf X.P t with
    | some n => match (ev X st v).okC && decide ((ev X st v).cells.length = n) with | true => allocMN F o (ev X st v).cells K st | false => none
    | none => none
  | .store t p v => match o.dst with | none => storeMN X F m0 t p v K st | some _ => none
  | .call { callee := .value f, args, argTypes := _ } => match pureOf pf F o.dst f with
    | some g => match call g ⟨[], []⟩ (argsD X st args.toList) with
      | some (d, _) => K (st.put o.dst d)
      | none => none
    | none => match ev X st f with
      | .func g cap => match decide (g < 100000) with
        | true => callMN call (mkB F o.dst) (ix F o.dst g) (argsD X st args.toList ++ cap) o.dst K st
        | false => none
      | _ => none
  | .call { callee := .builtin .append, args := _, argTypes := _ } => makeM X F o K st
  | .buildSlice _ _ _ => rowM X o K st
  | .call { callee := .builtin .len, args := _, argTypes := _ } | .call { callee := .builtin .min, args := _, argTypes := _ } | .call { callee := .builtin .max, args := _, argTypes := _ } => pureMN X m0 o K st
  | .fieldAddr t p i => match regOf st p with
    | some (key, off) => match fieldOff X.P t i, o.dst with
      | some n, some x => K (st.putL x key (off + n))
      | _, _ => none
    | none => pureMN X m0 o K st
  | .nilCheck p => match regOf st p with
    | some (key, off) => match o.dst with
      | some x => K (st.putL x key off)
      | none => K st
    | none => pureMN X m0 o K st
  | .load _ p => match locOk F st p with
    | true => pureMN X m0 o K st
    | false => none
  | .makeSlice _ _ _ => makeM X F o K st
  | .convert s d _ => match isStr X.P s && bytesTy X.P d with
    | true => makeM X F o K st
    | false => pureMN X m0 o K st
  | .move _ | .assign _ | .pick _ _ _ | .binOp _ _ _ _ _ | .unOp _ _ _ | .makeFunc _ _ _ | .field _ _ _ | .build _ _
  | .indexAddr _ _ _ | .index _ _ _ | .extract _ _ | .slice _ _ _ _ _ => pureMN X m0 o K st
  | _ => none

def opMN (X : Ctx) (F : Fi) (pf : Nat → Bool) (call : Call) (m0 : Mem) (all : List Oper) (o : Oper) (K : St → Option R) (st : St) : Option R :=
  match o.guard with
  | none => stepMN X F pf call m0 o K st
  | some (j, want) => match guardI all st j with
    | some (some b) => (match eqB want b with
      | true => stepMN X F pf call m0 o K st
      | false => K (st.put o.dst (.tuple [])))
    | some none => K (st.put o.dst (.tuple []))
    | none => none

def opsMN (X : Ctx) (F : Fi) (pf : Nat → Bool) (call : Call) (m0 : Mem) (all : List Oper) : List Oper → (St → Option R) → St → Option R
  | [], K, st => K st
  | o :: r, K, st => opMN X F pf call m0 all o (opsMN X F pf call m0 all r K) st

end

/-! Values made plain (for the kernel's sake: it computes no more than it is asked) -/
def forceN {α : Type} (n : Nat) (k : Nat → α) : α :=
  match n with
  | 0 => k 0
  | m + 1 => k (m + 1)
def forceI {α : Type} (n : Int) (k : Int → α) : α :=
  match n with
  | .ofNat m => forceN m fun m => k (.ofNat m)
  | .negSucc m => forceN m fun m => k (.negSucc m)
def forceD {α : Type} (d : D) (k : D → α) : α :=
  match d with
  | .int kk n => forceI n fun n => k (.int kk n)
  | .bool b => (match b with | true => k (.bool true) | false => k (.bool false))
  | .str s => k (.str s)
  | .slice t kk es => k (.slice t kk es)
  | .nil => k .nil
  | .opq => k .opq
  | .rsl a b c d => forceN a fun a => forceN b fun b => forceN c fun c => k (.rsl a b c d)
  | .ptr a b => k (.ptr a b)
  | .nilptr => k .nilptr
  | .ref cs o => forceN o fun o => k (.ref cs o)
  | .func f cs => k (.func f cs)
  | .nilfunc => k .nilfunc
  | .agg cs => k (.agg cs)
  | .tuple ds => k (.tuple ds)
  | .undef => k .undef
def forceL {α : Type} : List D → (List D → α) → α
  | [], k => k []
  | d :: r, k => forceD d fun d => forceL r fun r => k (d :: r)
def forceNs {α : Type} : List Nat → (List Nat → α) → α
  | [], k => k []
  | d :: r, k => forceN d fun d => forceNs r fun r => k (d :: r)
def forceLs {α : Type} : List (List D) → (List (List D) → α) → α
  | [], k => k []
  | d :: r, k => forceL d fun d => forceLs r fun r => k (d :: r)
def forceM {α : Type} (m : Mem) (k : Mem → α) : α :=
  forceLs m.boxes fun b => forceNs m.toks fun t => k ⟨b, t⟩
def forceS {α : Type} : List (Nat × D) → (List (Nat × D) → α) → α
  | [], k => k []
  | (x, d) :: r, k => forceD d fun d => forceS r fun r => k ((x, d) :: r)
def forceP {α : Type} : List (Nat × (Nat × Nat)) → (List (Nat × (Nat × Nat)) → α) → α
  | [], k => k []
  | (x, (a, b)) :: r, k => forceN a fun a => forceN b fun b => forceP r fun r => k ((x, (a, b)) :: r)
def forceB {α : Type} : List (Nat × List D) → (List (Nat × List D) → α) → α
  | [], k => k []
  | (x, d) :: r, k => forceL d fun d => forceB r fun r => k ((x, d) :: r)
def keepF {α : Type} (st : St) (l : List Nat) (k : St → α) : α :=
  forceS (keepS st.sl l) fun a => forceP (keepO (keepR l st.lp) l) fun b => forceB (keepO st.bx l) fun c => forceM st.m fun m => k ⟨slL a, opL b, opL c, m⟩

theorem forceN_eq {α : Type} (n : Nat) (k : Nat → α) : forceN n k = k n := by cases n <;> rfl
theorem forceI_eq {α : Type} (n : Int) (k : Int → α) : forceI n k = k n := by cases n <;> simp only [forceI, forceN_eq]
theorem forceD_eq {α : Type} (d : D) (k : D → α) : forceD d k = k d := by
  cases d with
  | int kk n => simp only [forceD, forceI_eq]
  | bool b => cases b <;> rfl
  | ref cs o => simp only [forceD, forceN_eq]
  | rsl a b c d => simp only [forceD, forceN_eq]
  | _ => rfl
theorem forceL_eq {α : Type} : ∀ (l : List D) (k : List D → α), forceL l k = k l
  | [], _ => rfl
  | d :: r, k => by simp only [forceL, forceD_eq, forceL_eq r]
theorem forceNs_eq {α : Type} : ∀ (l : List Nat) (k : List Nat → α), forceNs l k = k l
  | [], _ => rfl
  | d :: r, k => by simp only [forceNs, forceN_eq, forceNs_eq r]
theorem forceLs_eq {α : Type} : ∀ (l : List (List D)) (k : List (List D) → α), forceLs l k = k l
  | [], _ => rfl
  | d :: r, k => by simp only [forceLs, forceL_eq, forceLs_eq r]
theorem forceM_eq {α : Type} (m : Mem) (k : Mem → α) : forceM m k = k m := by simp only [forceM, forceLs_eq, forceNs_eq]
theorem forceS_eq {α : Type} : ∀ (l : List (Nat × D)) (k : List (Nat × D) → α), forceS l k = k l
  | [], _ => rfl
  | (x, d) :: r, k => by simp only [forceS, forceD_eq, forceS_eq r]
theorem forceP_eq {α : Type} : ∀ (l : List (Nat × (Nat × Nat))) (k : List (Nat × (Nat × Nat)) → α), forceP l k = k l
  | [], _ => rfl
  | (x, (a, b)) :: r, k => by simp only [forceP, forceN_eq, forceP_eq r]
theorem forceB_eq {α : Type} : ∀ (l : List (Nat × List D)) (k : List (Nat × List D) → α), forceB l k = k l
  | [], _ => rfl
  | (x, d) :: r, k => by simp only [forceB, forceL_eq, forceB_eq r]
theorem keepF_eq {α : Type} (st : St) (l : List Nat) (k : St → α) : keepF st l k = k (st.keep l) := by
  simp only [keepF, forceS_eq, forceP_eq, forceB_eq, forceM_eq]; rfl

/-- A function in the table. cl: it is on its own (it is handed no pointers, and what it makes it hands back without rights). -/
structure Fx where
  F : Fi
  n : Nat
  rs : List ResultVar
  code : Code
  cl : Bool

def endM (X : Ctx) (rs : List ResultVar) : Exit × St → Option (D × Mem)
  | (.normal, st) => (match resD X rs st with | some r => some (r, st.m) | none => none)
  | (.ret, st) => (match resD X rs st with | some r => some (r, st.m) | none => none)
  | _ => none

def bodyBy (X : Ctx) (ex : Fi → Code → St → Option (Exit × St)) (fx : Fx) (m : Mem) (ds : List D) : Option (D × Mem) :=
  forceL ds fun ds => forceM m fun m => (match ex fx.F fx.code (entry ds m) with
    | some o => endM X fx.rs o
    | none => none)
def callBy (X : Ctx) (T : Nat → Option Fx) (ex : Fi → Code → St → Option (Exit × St)) : Call := fun g m ds =>
  match T g with
  | some fx => (match Nat.ble ds.length fx.n with
    | true => (match fx.cl with
      | true => (match bodyBy X ex fx ⟨[], []⟩ (stripL ds) with
        | some (r, m') => some (frz m' r, m)
        | none => none)
      | false => (match Nat.ble 200000 g with
        | true => (match bodyBy X ex fx ⟨[], []⟩ (frzL m ds) with
          | some (r, m') => (match frs m' r with
            | true => some (frz m' r, m)
            | false => none)
          | none => none)
        | false => bodyBy X ex fx m ds))
    | false => none)
  | none => none
/-- Which functions are on their own. -/
def pfT (T : Nat → Option Fx) (g : Nat) : Bool := match T g with | some fx => fx.cl | none => false

def thenM (o : Option (Exit × St)) (f : St → Option (Exit × St)) : Option (Exit × St) :=
  match o with
  | some (.normal, st') => f st'
  | o => o

def exec (X : Ctx) (T : Nat → Option Fx) : Nat → Fi → Code → St → Option (Exit × St)
  | 0, _, _, _ => none
  | n + 1, F, c, st => match c with
    | .skip => some (.normal, st)
    | .region id ops dr => (match dr with
      | false => opsM X F (callBy X T (exec X T n)) ops.toList ops.toList (fun st' => keepF st' F.ext fun st' => some (.normal, st')) st
      | true => (match memB F.bad id with
        | false => opsMN X F (pfT T) (callBy X T (exec X T n)) st.m ops.toList ops.toList (fun st' => keepF st' F.ext fun st' => some (.normal, st')) st
        | true => none))
    | .seq a b => thenM (exec X T n F a st) (fun st' => exec X T n F b st')
    | .cond c a b => (match ev X st c with
      | .bool t => (match t with
        | true => exec X T n F a st
        | false => exec X T n F b st)
      | _ => none)
    | .block id a => (match exec X T n F a st with
      | some (.exit id', st') => (match Nat.beq id' id with
        | true => some (.normal, st')
        | false => some (.exit id', st'))
      | o => o)
    | .exit id => some (.exit id, st)
    | .ret => some (.ret, st)
    | .loop a => keepF st (liveOf F a) fun st => thenM (exec X T n F a st) (fun st' => exec X T n F (.loop a) st')
    | _ => none

end Go.Eng
/- The machine and its limit. -/
namespace Go.Eng
open Go

noncomputable def lim {α : Type} (f : Nat → Option α) : Option α := by
  classical exact if h : ∃ n, (f n).isSome = true then f h.choose else none

theorem lim_some {α : Type} {f : Nat → Option α} {x : α} (h : lim f = some x) : ∃ n, f n = some x := by
  classical
  unfold lim at h
  split at h
  · exact ⟨_, h⟩
  · cases h
theorem lim_of {α : Type} {f : Nat → Option α} {x : α} {n : Nat} (hm : ∀ n k y, f n = some y → n ≤ k → f k = some y) (h : f n = some x) : lim f = some x := by
  classical
  have he : ∃ n, (f n).isSome = true := ⟨n, by rw [h]; rfl⟩
  unfold lim
  rw [dif_pos he]
  obtain ⟨y, hy⟩ := Option.isSome_iff_exists.1 he.choose_spec
  have h1 := hm _ (max n he.choose) y hy (Nat.le_max_right _ _)
  have h2 := hm _ (max n he.choose) x h (Nat.le_max_left _ _)
  rw [h1] at h2
  rw [hy]; exact h2

section
variable {X : Ctx} {F : Fi} {R : Type} {call call' : Call} {pf : Nat → Bool} {K K' : St → Option R} {st : St} {x : R}

theorem pureM_mono {o : Oper} (hK : ∀ st', K st' = some x → K' st' = some x) (h : pureM X o K st = some x) : pureM X o K' st = some x := by
  unfold pureM at h ⊢
  split at h
  · exact hK _ h
  · cases h
theorem pureMN_mono {m0 : Mem} {o : Oper} (hK : ∀ st', K st' = some x → K' st' = some x) (h : pureMN X m0 o K st = some x) : pureMN X m0 o K' st = some x := by
  unfold pureMN at h ⊢
  split at h
  · exact hK _ h
  · cases h
theorem makeM_mono {o : Oper} (hK : ∀ st', K st' = some x → K' st' = some x) (h : makeM X F o K st = some x) : makeM X F o K' st = some x := by
  unfold makeM at h ⊢
  split at h
  · exact hK _ h
  · cases h
theorem rowM_mono {o : Oper} (hK : ∀ st', K st' = some x → K' st' = some x) (h : rowM X o K st = some x) : rowM X o K' st = some x := by
  unfold rowM at h ⊢
  split at h
  · exact hK _ h
  · cases h
theorem allocM_mono {o : Oper} {cs : List D} (hK : ∀ st', K st' = some x → K' st' = some x) (h : allocM F o cs K st = some x) : allocM F o cs K' st = some x := by
  unfold allocM at h ⊢
  split at h
  · split at h
    · exact hK _ h
    · exact hK _ h
  · cases h
theorem allocMN_mono {o : Oper} {cs : List D} (hK : ∀ st', K st' = some x → K' st' = some x) (h : allocMN F o cs K st = some x) : allocMN F o cs K' st = some x := by
  unfold allocMN at h ⊢
  split at h
  · split at h
    · exact hK _ h
    · split at h
      · exact hK _ h
      · cases h
  · cases h
theorem storeM_mono {t : Nat} {p v : Operand} (hK : ∀ st', K st' = some x → K' st' = some x) (h : storeM X t p v K st = some x) : storeM X t p v K' st = some x := by
  unfold storeM at h ⊢
  repeat' split at h
  all_goals first | (cases h; done) | exact hK _ h
theorem storeMN_mono {m0 : Mem} {t : Nat} {p v : Operand} (hK : ∀ st', K st' = some x → K' st' = some x) (h : storeMN X F m0 t p v K st = some x) : storeMN X F m0 t p v K' st = some x := by
  unfold storeMN at h ⊢
  repeat' split at h
  all_goals first | (cases h; done) | exact hK _ h
theorem callM_mono (hc : ∀ g m ds r, call g m ds = some r → call' g m ds = some r) {g : Nat} {ds : List D} {dst : Option Nat}
    (hK : ∀ st', K st' = some x → K' st' = some x) (h : callM call g ds dst K st = some x) : callM call' g ds dst K' st = some x := by
  unfold callM at h ⊢
  split at h
  · rename_i r m he; rw [hc _ _ _ _ he]; exact hK _ h
  · cases h
theorem callMN_mono (hc : ∀ g m ds r, call g m ds = some r → call' g m ds = some r) {b : Bool} {g : Nat} {ds : List D} {dst : Option Nat}
    (hK : ∀ st', K st' = some x → K' st' = some x) (h : callMN call b g ds dst K st = some x) : callMN call' b g ds dst K' st = some x := by
  unfold callMN at h ⊢
  split at h
  · rename_i r m he
    rw [hc _ _ _ _ he]
    simp only
    split at h
    · rename_i hs; exact hK _ h
    · cases h
  · cases h

theorem stepM_mono (hc : ∀ g m ds r, call g m ds = some r → call' g m ds = some r) {o : Oper}
    (hK : ∀ st', K st' = some x → K' st' = some x) (h : stepM X F call o K st = some x) : stepM X F call' o K' st = some x := by
  unfold stepM at h
  repeat' split at h
  all_goals first | (cases h; done) | skip
  all_goals unfold stepM
  all_goals first
    | (simp only [*]; done)
    | (simp only [*]; first | exact hK _ h | exact pureM_mono hK h | exact makeM_mono hK h | exact rowM_mono hK h | exact allocM_mono hK h | exact storeM_mono hK h | exact callM_mono hc hK h)

theorem stepMN_mono (hc : ∀ g m ds r, call g m ds = some r → call' g m ds = some r) {m0 : Mem} {o : Oper}
    (hK : ∀ st', K st' = some x → K' st' = some x) (h : stepMN X F pf call m0 o K st = some x) : stepMN X F pf call' m0 o K' st = some x := by
  unfold stepMN at h
  split at h
  case h_4 =>
    rename_i hop
    unfold stepMN
    rw [hop]
    simp only
    split at h
    · split at h
      · rename_i d m he; rw [hc _ _ _ _ he]; exact hK _ h
      · cases h
    · split at h
      · split at h
        · exact callMN_mono hc hK h
        · cases h
      · cases h
  all_goals repeat' split at h
  all_goals first | (cases h; done) | skip
  all_goals unfold stepMN
  all_goals first
    | (simp only [*]; done)
    | (simp only [*]; first | exact hK _ h | exact pureMN_mono hK h | exact makeM_mono hK h | exact rowM_mono hK h | exact allocMN_mono hK h | exact storeMN_mono hK h | exact callMN_mono hc hK h)

theorem opM_mono (hc : ∀ g m ds r, call g m ds = some r → call' g m ds = some r) {all : List Oper} {o : Oper}
    (hK : ∀ st', K st' = some x → K' st' = some x) (h : opM X F call all o K st = some x) : opM X F call' all o K' st = some x := by
  unfold opM at h ⊢
  split at h
  · exact stepM_mono hc hK h
  · split at h
    · split at h
      · exact stepM_mono hc hK h
      · exact hK _ h
    · exact hK _ h
    · cases h
theorem opMN_mono (hc : ∀ g m ds r, call g m ds = some r → call' g m ds = some r) {m0 : Mem} {all : List Oper} {o : Oper}
    (hK : ∀ st', K st' = some x → K' st' = some x) (h : opMN X F pf call m0 all o K st = some x) : opMN X F pf call' m0 all o K' st = some x := by
  unfold opMN at h ⊢
  split at h
  · exact stepMN_mono hc hK h
  · split at h
    · split at h
      · exact stepMN_mono hc hK h
      · exact hK _ h
    · exact hK _ h
    · cases h
theorem opsM_mono (hc : ∀ g m ds r, call g m ds = some r → call' g m ds = some r) {all : List Oper} (hK : ∀ st', K st' = some x → K' st' = some x) :
    ∀ (l : List Oper) (st : St), opsM X F call all l K st = some x → opsM X F call' all l K' st = some x
  | [], _, h => hK _ h
  | _ :: r, _, h => opM_mono hc (opsM_mono hc hK r) h
theorem opsMN_mono (hc : ∀ g m ds r, call g m ds = some r → call' g m ds = some r) {m0 : Mem} {all : List Oper} (hK : ∀ st', K st' = some x → K' st' = some x) :
    ∀ (l : List Oper) (st : St), opsMN X F pf call m0 all l K st = some x → opsMN X F pf call' m0 all l K' st = some x
  | [], _, h => hK _ h
  | _ :: r, _, h => opMN_mono hc (opsMN_mono hc hK r) h
end

section
variable {X : Ctx} {T : Nat → Option Fx}

theorem bodyBy_mono {ex ex' : Fi → Code → St → Option (Exit × St)} (h : ∀ F c st o, ex F c st = some o → ex' F c st = some o) {fx : Fx} {m : Mem} {ds : List D} {r : D × Mem}
    (hc : bodyBy X ex fx m ds = some r) : bodyBy X ex' fx m ds = some r := by
  unfold bodyBy at hc ⊢
  simp only [forceL_eq, forceM_eq] at hc ⊢
  split at hc
  · rename_i o ho; rw [h _ _ _ _ ho]; exact hc
  · cases hc
theorem callBy_mono {ex ex' : Fi → Code → St → Option (Exit × St)} (h : ∀ F c st o, ex F c st = some o → ex' F c st = some o) (g : Nat) (m : Mem) (ds : List D) (r : D × Mem)
    (hc : callBy X T ex g m ds = some r) : callBy X T ex' g m ds = some r := by
  unfold callBy at hc ⊢
  split at hc
  · rename_i fx hfx
    split at hc
    · rename_i hle
      split at hc
      · split at hc
        · rename_i r0 m0 he; simp only [bodyBy_mono h he]; exact hc
        · cases hc
      · split at hc
        · split at hc
          · rename_i r0 m0 he; simp only [bodyBy_mono h he]; exact hc
          · cases hc
        · exact bodyBy_mono h hc
    · cases hc
  · cases hc

theorem exec_mono : ∀ (n : Nat) (F : Fi) (c : Code) (st : St) (o : Exit × St), exec X T n F c st = some o → exec X T (n + 1) F c st = some o := by
  intro n
  induction n with
  | zero => intro F c st o h; simp [exec] at h
  | succ n ih =>
  intro F c st o h
  have hcall := callBy_mono (X := X) (T := T) ih
  cases c with
  | skip => simpa only [exec] using h
  | region id ops dr =>
    cases dr with
    | false => rw [exec] at h ⊢; simp only [keepF_eq] at h ⊢; exact opsM_mono hcall (fun _ h => h) _ _ h
    | true =>
      rw [exec] at h ⊢
      simp only [keepF_eq] at h ⊢
      split at h
      · exact opsMN_mono hcall (fun _ h => h) _ _ h
      · cases h
  | seq a b =>
    rw [exec] at h ⊢
    simp only [thenM] at h ⊢
    split at h
    · rename_i s1 h1; rw [ih _ _ _ _ h1]; exact ih _ _ _ _ h
    · rename_i hne
      rw [ih _ _ _ _ h]
      obtain ⟨e, s⟩ := o
      cases e <;> first | rfl | exact (hne _ h).elim
  | cond o' a b =>
    rw [exec] at h ⊢
    split at h
    · rename_i t ht
      cases t with
      | true => exact ih _ _ _ _ h
      | false => exact ih _ _ _ _ h
    · cases h
  | block id a =>
    rw [exec] at h ⊢
    split at h
    · rename_i id' s1 h1; rw [ih _ _ _ _ h1]; exact h
    · rename_i hne
      rw [ih _ _ _ _ h]
      obtain ⟨e, s⟩ := o
      cases e <;> first | rfl | exact (hne _ _ h).elim
  | exit id => simpa only [exec] using h
  | ret => simpa only [exec] using h
  | loop a =>
    rw [exec] at h ⊢
    simp only [thenM, keepF_eq] at h ⊢
    split at h
    · rename_i s1 h1; rw [ih _ _ _ _ h1]; exact ih _ _ _ _ h
    · rename_i hne
      rw [ih _ _ _ _ h]
      obtain ⟨e, s⟩ := o
      cases e <;> first | rfl | exact (hne _ h).elim
  | rangeFunc _ _ _ _ => simp [exec] at h
  | scope _ => simp [exec] at h
  | label _ => simp [exec] at h
  | goto _ => simp [exec] at h
  | refuse _ => simp [exec] at h

theorem exec_le {n k : Nat} (hk : n ≤ k) (F : Fi) (c : Code) (st : St) (o : Exit × St) (h : exec X T n F c st = some o) : exec X T k F c st = some o := by
  induction hk with
  | refl => exact h
  | step _ ih => exact exec_mono _ _ _ _ _ ih

variable (X T) in
/-- The call at depth n. -/
def callAt (n : Nat) : Call := callBy X T (exec X T n)
theorem callAt_le {n k : Nat} (hk : n ≤ k) (g : Nat) (m : Mem) (ds : List D) (r : D × Mem) (h : callAt X T n g m ds = some r) : callAt X T k g m ds = some r :=
  callBy_mono (fun F c st o => exec_le hk F c st o) g m ds r h

variable (X T) in
/-- What a function returns. -/
noncomputable def callR (g : Nat) (m : Mem) (ds : List D) : Option (D × Mem) := lim fun n => callAt X T n g m ds

theorem callR_some {g : Nat} {m : Mem} {ds : List D} {r : D × Mem} (h : callR X T g m ds = some r) : ∃ n, ∀ k, n ≤ k → callAt X T k g m ds = some r := by
  obtain ⟨n, hn⟩ := lim_some h
  exact ⟨n, fun k hk => callAt_le hk _ _ _ _ hn⟩
theorem callR_of_at {n : Nat} {g : Nat} {m : Mem} {ds : List D} {r : D × Mem} (h : callAt X T n g m ds = some r) : callR X T g m ds = some r :=
  lim_of (f := fun n => callAt X T n g m ds) (fun _ _ _ h1 h2 => callAt_le h2 _ _ _ _ h1) h
end
end Go.Eng
/- What the machine returns, the program returns. -/
namespace Go.Eng
open Go

mutual
theorem eqV_sound : ∀ (a b : D), eqV a b = true → a = b
  | .int k n, b, h => by cases b <;> simp [eqV] at h; simp [h]
  | .bool x, b, h => by cases b <;> simp [eqV] at h; simp [h]
  | .str x, b, h => by cases b <;> simp [eqV] at h; simp [h]
  | .slice t k es, b, h => by
    cases b <;> simp [eqV] at h
    obtain ⟨rfl, rfl, h⟩ := h
    rw [eqVs_sound _ _ h]
  | .nil, b, h => by cases b <;> simp [eqV] at h; rfl
  | .opq, b, h => by cases b <;> simp [eqV] at h; rfl
  | .rsl x y z u, b, h => by cases b <;> simp [eqV] at h; simp [h]
  | .ptr x y, b, h => by cases b <;> simp [eqV] at h; simp [h]
  | .nilptr, b, h => by cases b <;> simp [eqV] at h; rfl
  | .ref cs o, b, h => by
    cases b <;> simp [eqV] at h
    rw [eqVs_sound _ _ h.1, h.2]
  | .func f cs, b, h => by
    cases b <;> simp [eqV] at h
    rw [eqVs_sound _ _ h.2, h.1]
  | .nilfunc, b, h => by cases b <;> simp [eqV] at h; rfl
  | .agg cs, b, h => by
    cases b <;> simp [eqV] at h
    rw [eqVs_sound _ _ h]
  | .tuple cs, b, h => by
    cases b <;> simp [eqV] at h
    rw [eqVs_sound _ _ h]
  | .undef, b, h => by cases b <;> simp [eqV] at h; rfl
theorem eqVs_sound : ∀ (a b : List D), eqVs a b = true → a = b
  | [], b, h => by cases b <;> simp [eqVs] at h; rfl
  | x :: r, b, h => by
    cases b <;> simp [eqVs] at h
    rw [eqV_sound _ _ h.1, eqVs_sound _ _ h.2]
end
mutual
theorem eqV_refl : ∀ (a : D), eqV a a = true
  | .int k n => by simp [eqV]
  | .bool x => by simp [eqV]
  | .str x => by simp [eqV]
  | .slice t k es => by simp [eqV, eqVs_refl es]
  | .nil => rfl
  | .opq => rfl
  | .rsl x y z u => by simp [eqV]
  | .ptr x y => by simp [eqV]
  | .nilptr => rfl
  | .ref cs o => by simp [eqV, eqVs_refl cs]
  | .func f cs => by simp [eqV, eqVs_refl cs]
  | .nilfunc => rfl
  | .agg cs => by simp [eqV, eqVs_refl cs]
  | .tuple cs => by simp [eqV, eqVs_refl cs]
  | .undef => rfl
theorem eqVs_refl : ∀ (a : List D), eqVs a a = true
  | [] => rfl
  | x :: r => by simp [eqVs, eqV_refl x, eqVs_refl r]
end

theorem preB_sound : ∀ (a b : List (List D)), preB a b = true → ∀ (i : Nat) (cs : List D), a[i]? = some cs → b[i]? = some cs
  | [], _, _, i, cs, h => by simp at h
  | x :: r, [], h, _, _, _ => by simp [preB] at h
  | x :: r, y :: s, h, i, cs, hi => by
    simp [preB] at h
    cases i with
    | zero => simp at hi ⊢; rw [← hi, eqVs_sound _ _ h.1]
    | succ i => simp at hi ⊢; exact preB_sound r s h.2 i cs hi
theorem preB_of : ∀ (a b : List (List D)), (∀ (i : Nat) (cs : List D), a[i]? = some cs → b[i]? = some cs) → preB a b = true
  | [], _, _ => rfl
  | x :: r, b, h => by
    have h0 := h 0 x rfl
    cases b with
    | nil => simp at h0
    | cons y s =>
      simp at h0; subst h0
      simp only [preB, eqVs_refl, Bool.true_and]
      exact preB_of r s fun i cs hi => by simpa using h (i + 1) cs (by simpa using hi)
theorem subB_sound {m m' : Mem} (h : subB m m' = true) : Sub m m' := preB_sound _ _ h
theorem subB_of {m m' : Mem} (h : Sub m m') : subB m m' = true := preB_of _ _ h

section
variable {X : Ctx} {F : Fi} {R : Type} {call : Call} {C : CallW} {K : St → Option R} {K' : St → Prop} {st : St} {x : R}

theorem pureM_sound {o : Oper} (hK : ∀ st', K st' = some x → K' st') (h : pureM X o K st = some x) : pureK X o K' st := by
  unfold pureM at h; unfold pureK
  split at h
  · rename_i d hd; rw [hd]; exact hK _ h
  · cases h
theorem pureMN_sound {m0 : Mem} {o : Oper} (hK : ∀ st', K st' = some x → K' st') (h : pureMN X m0 o K st = some x) : pureN X m0 o K' st := by
  unfold pureMN at h; unfold pureN
  split at h
  · rename_i d hd; rw [hd]; exact hK _ h
  · cases h
theorem makeM_sound {o : Oper} (hK : ∀ st', K st' = some x → K' st') (h : makeM X F o K st = some x) : makeK X F o K' st := by
  unfold makeM at h; unfold makeK
  split at h
  · rename_i d m hd; rw [hd]; exact hK _ h
  · cases h
theorem rowM_sound {o : Oper} (hK : ∀ st', K st' = some x → K' st') (h : rowM X o K st = some x) : rowK X o K' st := by
  unfold rowM at h; unfold rowK
  split at h
  · rename_i d hd; rw [hd]; exact hK _ h
  · cases h
theorem allocM_sound {o : Oper} {cs : List D} (hK : ∀ st', K st' = some x → K' st') (h : allocM F o cs K st = some x) : allocK F o cs K' st := by
  unfold allocM at h; unfold allocK
  split at h
  · rename_i y hy
    rw [hy]; simp only
    split at h
    · rename_i he; rw [he]; rw [← hy]; exact hK _ h
    · rename_i he; rw [he]; exact hK _ h
  · cases h
theorem allocMN_sound {o : Oper} {cs : List D} (hK : ∀ st', K st' = some x → K' st') (h : allocMN F o cs K st = some x) : allocN F o cs K' st := by
  unfold allocMN at h; unfold allocN
  split at h
  · rename_i y hy
    rw [hy]; simp only
    split at h
    · rename_i he; rw [he]; rw [← hy]; exact hK _ h
    · rename_i he
      rw [he]
      simp only
      split at h
      · rename_i hb; rw [hb]; exact hK _ h
      · cases h
  · cases h
theorem storeM_sound {t : Nat} {p v : Operand} (hK : ∀ st', K st' = some x → K' st') (h : storeM X t p v K st = some x) : storeK X t p v K' st := by
  unfold storeM at h; unfold storeK
  repeat' split at h
  all_goals first | (cases h; done) | (simp only [*]; done) | (simp only [*]; exact hK _ h)
theorem storeMN_sound {m0 : Mem} {t : Nat} {p v : Operand} (hK : ∀ st', K st' = some x → K' st') (h : storeMN X F m0 t p v K st = some x) : storeN X F m0 t p v K' st := by
  unfold storeMN at h; unfold storeN
  repeat' split at h
  all_goals first | (cases h; done) | (simp only [*]; done) | (simp only [*]; exact hK _ h)
theorem callM_sound (hc : ∀ g m ds r m', call g m ds = some (r, m') → ∀ Q : D → Mem → Prop, Q r m' → C.run g m ds Q) {g : Nat} {ds : List D} {dst : Option Nat}
    (hK : ∀ st', K st' = some x → K' st') (h : callM call g ds dst K st = some x) : C.run g st.m ds fun r m => K' ((st.put dst r).setM m) := by
  unfold callM at h
  split at h
  · rename_i r m he; exact hc _ _ _ _ _ he _ (hK _ h)
  · cases h
theorem callMN_sound (hc : ∀ g m ds r m', call g m ds = some (r, m') → ∀ Q : D → Mem → Prop, Q r m' → C.run g m ds Q) {b : Bool} {g : Nat} {ds : List D} {dst : Option Nat}
    (hK : ∀ st', K st' = some x → K' st') (h : callMN call b g ds dst K st = some x) : callN C b g ds dst K' st := by
  unfold callMN at h
  split at h
  · rename_i r m he
    split at h
    · rename_i hs
      exact ⟨fun r' m' => r' = r ∧ m' = m, ⟨r, m, rfl, rfl⟩, hc _ _ _ _ _ he _ ⟨rfl, rfl⟩, fun r' m' ⟨e1, e2⟩ => by subst e1; subst e2; exact ⟨by rw [Bool.or_eq_true] at hs; exact hs.imp id subB_sound, hK _ h⟩⟩
    · cases h
  · cases h

theorem stepM_sound (hc : ∀ g m ds r m', call g m ds = some (r, m') → ∀ Q : D → Mem → Prop, Q r m' → C.run g m ds Q) {o : Oper}
    (hK : ∀ st', K st' = some x → K' st') (h : stepM X F call o K st = some x) : stepI X F C o K' st := by
  unfold stepM at h
  repeat' split at h
  all_goals first | (cases h; done) | skip
  all_goals unfold stepI
  all_goals first
    | (simp only [*]; done)
    | (simp only [*]; first | exact hK _ h | exact pureM_sound hK h | exact makeM_sound hK h | exact rowM_sound hK h | exact allocM_sound hK h | exact storeM_sound hK h | exact callM_sound hc hK h)

theorem stepMN_sound (hc : ∀ g m ds r m', call g m ds = some (r, m') → ∀ Q : D → Mem → Prop, Q r m' → C.run g m ds Q) (hp : ∀ g ds r m', C.pf g = true → call g ⟨[], []⟩ ds = some (r, m') → C.pv g ds = some r) {m0 : Mem} {o : Oper}
    (hK : ∀ st', K st' = some x → K' st') (h : stepMN X F C.pf call m0 o K st = some x) : stepN X F C m0 o K' st := by
  unfold stepMN at h
  split at h
  case h_4 =>
    rename_i hop
    unfold stepN
    rw [hop]
    simp only
    split at h
    · rename_i g hg
      rw [hg]
      simp only
      split at h
      · rename_i d m he
        obtain ⟨_, _, _, _, hpf⟩ := pureOf_spec hg
        rw [hp _ _ _ _ hpf he]; exact hK _ h
      · cases h
    · rename_i hg
      rw [hg]
      simp only
      split at h
      · rename_i hf
        rw [hf]
        simp only
        split at h
        · rename_i hlt; rw [hlt]; exact callMN_sound hc hK h
        · cases h
      · cases h
  all_goals repeat' split at h
  all_goals first | (cases h; done) | skip
  all_goals unfold stepN
  all_goals first
    | (simp only [*]; done)
    | (simp only [*]; first | exact hK _ h | exact pureMN_sound hK h | exact makeM_sound hK h | exact rowM_sound hK h | exact allocMN_sound hK h | exact storeMN_sound hK h | exact callMN_sound hc hK h)

theorem opM_sound (hc : ∀ g m ds r m', call g m ds = some (r, m') → ∀ Q : D → Mem → Prop, Q r m' → C.run g m ds Q) {all : List Oper} {o : Oper}
    (hK : ∀ st', K st' = some x → K' st') (h : opM X F call all o K st = some x) : opI X F C all o K' st := by
  unfold opM at h; unfold opI
  split at h
  · rename_i hg; rw [hg]; exact stepM_sound hc hK h
  · rename_i j want hg
    rw [hg]; simp only
    split at h
    · rename_i b hb
      rw [hb]; simp only
      split at h
      · rename_i he; rw [he]; exact stepM_sound hc hK h
      · rename_i he; rw [he]; exact hK _ h
    · rename_i hb; rw [hb]; exact hK _ h
    · cases h
theorem opMN_sound (hc : ∀ g m ds r m', call g m ds = some (r, m') → ∀ Q : D → Mem → Prop, Q r m' → C.run g m ds Q) (hp : ∀ g ds r m', C.pf g = true → call g ⟨[], []⟩ ds = some (r, m') → C.pv g ds = some r) {m0 : Mem} {all : List Oper} {o : Oper}
    (hK : ∀ st', K st' = some x → K' st') (h : opMN X F C.pf call m0 all o K st = some x) : opN X F C m0 all o K' st := by
  unfold opMN at h; unfold opN
  split at h
  · rename_i hg; rw [hg]; exact stepMN_sound hc hp hK h
  · rename_i j want hg
    rw [hg]; simp only
    split at h
    · rename_i b hb
      rw [hb]; simp only
      split at h
      · rename_i he; rw [he]; exact stepMN_sound hc hp hK h
      · rename_i he; rw [he]; exact hK _ h
    · rename_i hb; rw [hb]; exact hK _ h
    · cases h
theorem opsM_sound (hc : ∀ g m ds r m', call g m ds = some (r, m') → ∀ Q : D → Mem → Prop, Q r m' → C.run g m ds Q) {all : List Oper} (hK : ∀ st', K st' = some x → K' st') :
    ∀ (l : List Oper) (st : St), opsM X F call all l K st = some x → wpOps X F C all l K' st
  | [], _, h => hK _ h
  | _ :: r, _, h => opM_sound hc (opsM_sound hc hK r) h
theorem opsMN_sound (hc : ∀ g m ds r m', call g m ds = some (r, m') → ∀ Q : D → Mem → Prop, Q r m' → C.run g m ds Q) (hp : ∀ g ds r m', C.pf g = true → call g ⟨[], []⟩ ds = some (r, m') → C.pv g ds = some r) {m0 : Mem} {all : List Oper} (hK : ∀ st', K st' = some x → K' st') :
    ∀ (l : List Oper) (st : St), opsMN X F C.pf call m0 all l K st = some x → wpOpsN X F C m0 all l K' st
  | [], _, h => hK _ h
  | _ :: r, _, h => opMN_sound hc hp (opsMN_sound hc hp hK r) h
end

structure Good (X : Ctx) (pf : Nat → Bool) (f : Nat) (fx : Fx) (fn : Func) : Prop where
  hf : X.P.funcs[f]? = some fn
  hb : fn.body = some fx.code
  hr : fn.results.toList = fx.rs
  hn : fn.ntmps = fx.n
  hen : enterable X.P f = true
  hok : codeOk X.P pf fx.F fx.n fx.code = true

def AllGood (X : Ctx) (T : Nat → Option Fx) : Prop := PlainG X ∧ ∀ f fx, T f = some fx → ∃ fn, Good X (pfT T) (f % 100000) fx fn

section
variable {X : Ctx} {T : Nat → Option Fx}

theorem endM_endP {rs : List ResultVar} {o : Exit × St} {r : D} {m : Mem} (h : endM X rs o = some (r, m)) {Q : D → Mem → Prop} (hq : Q r m) : endP X rs Q o.1 o.2 := by
  obtain ⟨e, st⟩ := o
  cases e <;> simp only [endM] at h <;> first
    | (cases h; done)
    | (split at h
       · rename_i d hd; cases h; simp only [endP, hd]; exact hq
       · cases h)

/-- What the machine does, is asked. -/
theorem exec_wpI {C : CallW} (hpf : C.pf = pfT T) : ∀ (n : Nat), (∀ k, k < n → ∀ g m ds r m', callAt X T k g m ds = some (r, m') → ∀ Q : D → Mem → Prop, Q r m' → C.run g m ds Q) →
    (∀ k, k < n → ∀ g ds r m', C.pf g = true → callAt X T k g ⟨[], []⟩ ds = some (r, m') → C.pv g ds = some r) → ∀ (F : Fi) (c : Code) (st : St) (e : Exit) (st' : St), exec X T n F c st = some (e, st') →
    ∀ Q : Post, Q e st' → wpI X F C c Q st := by
  intro n
  induction n using Nat.strongRecOn with
  | _ n ih0 =>
  intro hc0 hp0 F c st e st' h Q hQ
  have ih : ∀ k, k < n → ∀ (F : Fi) (c : Code) (st : St) (e : Exit) (st' : St), exec X T k F c st = some (e, st') → ∀ Q : Post, Q e st' → wpI X F C c Q st := fun k hk =>
    ih0 k hk (fun j hj => hc0 j (Nat.lt_trans hj hk)) (fun j hj => hp0 j (Nat.lt_trans hj hk))
  cases n with
  | zero => simp [exec] at h
  | succ n =>
  have hc := hc0 n (Nat.lt_succ_self n)
  have hp := hp0 n (Nat.lt_succ_self n)
  cases c with
  | skip => simp only [exec] at h; cases h; exact hQ
  | region id ops dr =>
    simp only [exec, keepF_eq] at h
    cases dr with
    | false =>
      simp only at h
      refine opsM_sound (R := Exit × St) (x := (e, st')) (K := fun st' => some (Exit.normal, st'.keep F.ext)) hc (fun s hs => ?_) _ _ h
      cases hs; exact hQ
    | true =>
      simp only at h
      split at h
      · rename_i hb
        rw [← hpf] at h
        refine ⟨hb, opsMN_sound (R := Exit × St) (x := (e, st')) (K := fun st' => some (Exit.normal, st'.keep F.ext)) hc hp (fun s hs => ?_) _ _ h⟩
        cases hs; exact hQ
      · cases h
  | seq a b =>
    simp only [exec] at h
    unfold thenM at h
    split at h
    · rename_i s1 h1
      exact ih n (Nat.lt_succ_self n) F a st _ _ h1 _ (ih n (Nat.lt_succ_self n) F b s1 _ _ h _ hQ)
    · rename_i hne
      refine ih n (Nat.lt_succ_self n) F a st _ _ h _ ?_
      cases e with
      | normal => exact (hne _ h).elim
      | exit id => exact hQ
      | goto l => exact hQ
      | ret => exact hQ
      | panic c => exact hQ
      | outgrown => exact hQ
  | cond o a b =>
    simp only [exec] at h
    split at h
    · rename_i t ht
      simp only [wpI, ht]
      cases t with
      | true => exact ih n (Nat.lt_succ_self n) F a st _ _ h _ hQ
      | false => exact ih n (Nat.lt_succ_self n) F b st _ _ h _ hQ
    · cases h
  | block id a =>
    simp only [exec] at h
    split at h
    · rename_i id' s1 h1
      refine ih n (Nat.lt_succ_self n) F a st _ _ h1 _ ?_
      split at h
      · rename_i he; cases h; simp only [blockP, if_pos (Nat.eq_of_beq_eq_true he)]; exact hQ
      · rename_i he; cases h; simp only [blockP, if_neg (Nat.ne_of_beq_eq_false he)]; exact hQ
    · rename_i hne
      refine ih n (Nat.lt_succ_self n) F a st _ _ h _ ?_
      cases e with
      | normal => exact hQ
      | exit id => exact (hne _ _ h).elim
      | goto l => exact hQ
      | ret => exact hQ
      | panic c => exact hQ
      | outgrown => exact hQ
  | exit id => simp only [exec] at h; cases h; exact hQ
  | ret => simp only [exec] at h; cases h; exact hQ
  | loop a =>
    refine ⟨Nat × St, fun p => p.2, fun p => p.1 ≤ n ∧ thenM (exec X T p.1 F a p.2) (fun s => exec X T p.1 F (.loop a) s) = some (e, st'), fun p => p.1, ⟨(n, st.keep (liveOf F a)), rfl, Nat.le_refl _, by simpa only [exec, keepF_eq] using h⟩, ?_⟩
    rintro ⟨k, s⟩ ⟨hk, hs⟩
    simp only at hk hs ⊢
    have hlt : k < n + 1 := by omega
    unfold thenM at hs
    split at hs
    · rename_i s1 h1
      refine ih k hlt F a s _ _ h1 _ ?_
      cases k with
      | zero => simp [exec] at h1
      | succ k =>
        exact ⟨(k, s1.keep (liveOf F a)), rfl, ⟨by show k ≤ n; omega, by simpa only [exec, keepF_eq] using hs⟩, Nat.lt_succ_self k⟩
    · rename_i hne
      refine ih k hlt F a s _ _ hs _ ?_
      cases e with
      | normal => exact (hne _ hs).elim
      | exit id => exact hQ
      | goto l => exact hQ
      | ret => exact hQ
      | panic c => exact hQ
      | outgrown => exact hQ
  | rangeFunc _ _ _ _ => simp [exec] at h
  | scope _ => simp [exec] at h
  | label _ => simp [exec] at h
  | goto _ => simp [exec] at h
  | refuse _ => simp [exec] at h

/-- The callees at the depth n. -/
def calD (X : Ctx) (T : Nat → Option Fx) (n : Nat) : CallW := { run := fun g => CallD X (g % 100000), pv := fun g ds => (callAt X T n g ⟨[], []⟩ ds).map (·.1), pf := pfT T }

theorem call_sound (hT : AllGood X T) : ∀ (n : Nat) (g : Nat) (m : Mem) (ds : List D) (r : D) (m' : Mem), callAt X T n g m ds = some (r, m') →
    (∀ Q : D → Mem → Prop, Q r m' → CallD X (g % 100000) m ds Q) ∧ (pfT T g = true → ∀ m2, CallD X (g % 100000) m2 ds fun r' m'' => r' = r ∧ m'' = m2) := by
  intro n
  induction n using Nat.strongRecOn with
  | _ n ih =>
  intro g m ds r m' hc
  unfold callAt callBy at hc
  split at hc
  · rename_i fx hfx
    split at hc
    · rename_i hle
      obtain ⟨fn, G⟩ := hT.2 g fx hfx
      have body : ∀ (m : Mem) (ds : List D) (r : D) (m' : Mem), ds.length ≤ fx.n → bodyBy X (exec X T n) fx m ds = some (r, m') → ∀ Q : D → Mem → Prop, Q r m' → CallD X (g % 100000) m ds Q := fun m ds r m' hle hb Q hq => by
        clear hc
        unfold bodyBy at hb
        simp only [forceL_eq, forceM_eq] at hb
        split at hb
        · rename_i o ho
          cases n with
          | zero => simp [exec] at ho
          | succ n =>
          have hok : CallOk X (calD X T n) := ⟨fun _ _ _ _ h => h, fun g ds v hp hv m => by
            simp only [calD] at hv hp
            cases hcall : callAt X T n g ⟨[], []⟩ ds with
            | none => rw [hcall] at hv; cases hv
            | some q =>
              obtain ⟨r, m'⟩ := q
              rw [hcall] at hv
              cases hv
              exact (ih n (Nat.lt_succ_self n) g ⟨[], []⟩ ds r m' hcall).2 hp m⟩
          refine call_of hok fx.F G.hf G.hb G.hen (by rw [G.hn]; exact G.hok) (by rw [G.hn]; exact hle) ?_
          rw [G.hr]
          refine exec_wpI (C := calD X T n) rfl (n + 1) (fun k hk g m ds r m' h Q hq => (ih k hk g m ds r m' h).1 Q hq) (fun k hk g ds r m' _ h => ?_) fx.F fx.code _ o.1 o.2 ho _ (endM_endP hb hq)
          simp only [calD, callAt_le (Nat.le_of_lt_succ hk) _ _ _ _ h, Option.map_some]
        · cases hb
      have hle' := Nat.le_of_ble_eq_true hle
      split at hc
      · rename_i hcl
        split at hc
        · rename_i r0 m0 he
          cases hc
          have main : ∀ m2, CallD X (g % 100000) m2 ds fun r' m'' => r' = frz m0 r0 ∧ m'' = m2 := fun m2 =>
            (closed_ok hT.1 (Q := fun r m => r = r0 ∧ m = m0) (body ⟨[], []⟩ (stripL ds) r0 m0 (by rw [stripL_length]; exact hle') he (fun r m => r = r0 ∧ m = m0) ⟨rfl, rfl⟩) m2).mono fun r' m'' ⟨⟨q, qm, ⟨hq, hqm⟩, e1⟩, e2⟩ => ⟨by rw [e1, hq, hqm], e2⟩
          exact ⟨fun Q hq => (main m).mono fun r' m'' ⟨e1, e2⟩ => by rw [e1, e2]; exact hq, fun _ => main⟩
        · cases hc
      · rename_i hcl
        have hpf : pfT T g = true → False := fun hp => by
          unfold pfT at hp
          rw [hfx] at hp
          simp only at hp
          rw [hcl] at hp; cases hp
        split at hc
        · split at hc
          · rename_i r0 m0 he
            split at hc
            · rename_i hsc
              cases hc
              have main : CallD X (g % 100000) m ds fun r' m'' => r' = frz m0 r0 ∧ m'' = m :=
                (closedF_ok hT.1 (Q := fun r' m' => r' = r0 ∧ m' = m0) (body ⟨[], []⟩ (frzL m ds) r0 m0 (by rw [frzL_length]; exact hle') he (fun r' m' => r' = r0 ∧ m' = m0) ⟨rfl, rfl⟩) (fun r' m' h => by rw [h.1, h.2]; exact hsc)).mono fun r' m'' ⟨⟨q, qm, ⟨hq, hqm⟩, e1⟩, e2⟩ => ⟨by rw [e1, hq, hqm], e2⟩
              exact ⟨fun Q hq => main.mono fun r' m'' ⟨e1, e2⟩ => by rw [e1, e2]; exact hq, fun hp => (hpf hp).elim⟩
            · cases hc
          · cases hc
        · exact ⟨fun Q hq => body m ds r m' hle' hc Q hq, fun hp => (hpf hp).elim⟩
    · cases hc
  · cases hc
end
end Go.Eng
/- What is shown of a function's code, the machine returns. -/
namespace Go.Eng
open Go
section
variable {X : Ctx} {T : Nat → Option Fx}
/-- What the machine returns, the program returns. -/
theorem callD_of (hT : AllGood X T) {g : Nat} {m : Mem} {ds : List D} {r : D} {m' : Mem} (h : callR X T g m ds = some (r, m')) {Q : D → Mem → Prop} (hq : Q r m') : CallD X (g % 100000) m ds Q := by
  obtain ⟨n, hn⟩ := callR_some h
  exact (call_sound hT n g m ds r m' (hn n (Nat.le_refl n))).1 Q hq

variable (X T) in
/-- A call, by what it returns. -/
noncomputable def callC : CallW := {
  run := fun g m ds Q => match callR X T g m ds with | some (r, m') => Q r m' | none => False
  pv := fun g ds => (callR X T g ⟨[], []⟩ ds).map (·.1)
  pf := pfT T }

@[go_sem] theorem callC_run (g : Nat) (m : Mem) (ds : List D) (Q : D → Mem → Prop) : (callC X T).run g m ds Q = match callR X T g m ds with | some (r, m') => Q r m' | none => False := rfl
@[go_sem] theorem callC_pf : (callC X T).pf = pfT T := rfl
@[go_sem] theorem callC_pv (g : Nat) (ds : List D) : (callC X T).pv g ds = (callR X T g ⟨[], []⟩ ds).map (·.1) := rfl

/-- From n on the machine goes this way. -/
abbrev Goes (f : ∀ (k : Nat) (R : Type), (St → Option R) → Option R) (Q : St → Prop) : Prop := ∃ n st', Q st' ∧ ∀ k, n ≤ k → ∀ (R : Type) (K : St → Option R), f k R K = K st'

variable {F : Fi} {K' : St → Prop} {st : St}
theorem pure_goes {o : Oper} (h : pureK X o K' st) : Goes (fun _ _ K => pureM X o K st) K' := by
  unfold pureK at h
  split at h
  · rename_i d hd; exact ⟨0, _, h, fun k _ R K => by simp only [pureM, hd]⟩
  · exact h.elim
theorem pureN_goes {m0 : Mem} {o : Oper} (h : pureN X m0 o K' st) : Goes (fun _ _ K => pureMN X m0 o K st) K' := by
  unfold pureN at h
  split at h
  · rename_i d hd; exact ⟨0, _, h, fun k _ R K => by simp only [pureMN, hd]⟩
  · exact h.elim
theorem make_goes {o : Oper} (h : makeK X F o K' st) : Goes (fun _ _ K => makeM X F o K st) K' := by
  unfold makeK at h
  split at h
  · rename_i d m hd; exact ⟨0, _, h, fun k _ R K => by simp only [makeM, hd]⟩
  · exact h.elim
theorem row_goes {o : Oper} (h : rowK X o K' st) : Goes (fun _ _ K => rowM X o K st) K' := by
  unfold rowK at h
  split at h
  · rename_i d hd; exact ⟨0, _, h, fun k _ R K => by simp only [rowM, hd]⟩
  · exact h.elim
theorem alloc_goes {o : Oper} {cs : List D} (h : allocK F o cs K' st) : Goes (fun _ _ K => allocM F o cs K st) K' := by
  unfold allocK at h
  split at h
  · rename_i y hy
    split at h
    · rename_i he; exact ⟨0, _, h, fun k _ R K => by simp only [allocM, hy, he]⟩
    · rename_i he; exact ⟨0, _, h, fun k _ R K => by simp only [allocM, hy, he]⟩
  · exact h.elim
theorem allocN_goes {o : Oper} {cs : List D} (h : allocN F o cs K' st) : Goes (fun _ _ K => allocMN F o cs K st) K' := by
  unfold allocN at h
  split at h
  · rename_i y hy
    split at h
    · rename_i he; exact ⟨0, _, h, fun k _ R K => by simp only [allocMN, hy, he]⟩
    · rename_i he
      split at h
      · rename_i hb; exact ⟨0, _, h, fun k _ R K => by simp only [allocMN, hy, he, hb]⟩
      · exact h.elim
  · exact h.elim
theorem store_goes {t : Nat} {p v : Operand} (h : storeK X t p v K' st) : Goes (fun _ _ K => storeM X t p v K st) K' := by
  unfold storeK at h
  split at h
  · split at h
    · split at h
      · split at h
        · exact ⟨0, _, h, fun k _ R K => by simp only [storeM, *]⟩
        · exact h.elim
      · exact h.elim
    · split at h
      · split at h
        · split at h
          · exact ⟨0, _, h, fun k _ R K => by simp only [storeM, *]⟩
          · exact h.elim
        · exact h.elim
      · exact h.elim
  · exact h.elim
theorem storeN_goes {m0 : Mem} {t : Nat} {p v : Operand} (h : storeN X F m0 t p v K' st) : Goes (fun _ _ K => storeMN X F m0 t p v K st) K' := by
  unfold storeN at h
  split at h
  · split at h
    · split at h
      · split at h
        · exact ⟨0, _, h, fun k _ R K => by simp only [storeMN, *]⟩
        · exact h.elim
      · exact h.elim
    · split at h
      · split at h
        · split at h
          · exact ⟨0, _, h, fun k _ R K => by simp only [storeMN, *]⟩
          · exact h.elim
        · exact h.elim
      · exact h.elim
  · exact h.elim
theorem call_goes {g : Nat} {ds : List D} {dst : Option Nat} (h : (callC X T).run g st.m ds fun r m => K' ((st.put dst r).setM m)) : Goes (fun k _ K => callM (callAt X T k) g ds dst K st) K' := by
  rw [callC_run] at h
  split at h
  · rename_i r m' hr
    obtain ⟨n, hn⟩ := callR_some hr
    exact ⟨n, _, h, fun k hk R K => by simp only [callM, hn k hk]⟩
  · exact h.elim
theorem callN_goes {b : Bool} {g : Nat} {ds : List D} {dst : Option Nat} (h : callN (callC X T) b g ds dst K' st) : Goes (fun k _ K => callMN (callAt X T k) b g ds dst K st) K' := by
  obtain ⟨T', _, h1, h2⟩ := h
  rw [callC_run] at h1
  split at h1
  · rename_i r m' hr
    obtain ⟨n, hn⟩ := callR_some hr
    obtain ⟨h3, h4⟩ := h2 r m' h1
    have h3 : (b || subB st.m m') = true := by rw [Bool.or_eq_true]; exact h3.imp id subB_of
    exact ⟨n, _, h4, fun k hk R K => by simp only [callMN, hn k hk, h3]⟩
  · exact h1.elim

theorem step_goes {o : Oper} (h : stepI X F (callC X T) o K' st) : Goes (fun k _ K => stepM X F (callAt X T k) o K st) K' := by
  unfold stepI at h
  repeat' split at h
  all_goals first | exact h.elim | skip
  all_goals first
    | (obtain ⟨n, s, h1, g⟩ := pure_goes h; exact ⟨n, s, h1, fun k hk R K => by have g := g k hk R K; clear h h1; unfold stepM; simp only [*]⟩)
    | (obtain ⟨n, s, h1, g⟩ := make_goes h; exact ⟨n, s, h1, fun k hk R K => by have g := g k hk R K; clear h h1; unfold stepM; simp only [*]⟩)
    | (obtain ⟨n, s, h1, g⟩ := row_goes h; exact ⟨n, s, h1, fun k hk R K => by have g := g k hk R K; clear h h1; unfold stepM; simp only [*]⟩)
    | (obtain ⟨n, s, h1, g⟩ := alloc_goes h; exact ⟨n, s, h1, fun k hk R K => by have g := g k hk R K; clear h h1; unfold stepM; simp only [*]⟩)
    | (obtain ⟨n, s, h1, g⟩ := store_goes h; exact ⟨n, s, h1, fun k hk R K => by have g := g k hk R K; clear h h1; unfold stepM; simp only [*]⟩)
    | (obtain ⟨n, s, h1, g⟩ := call_goes h; exact ⟨n, s, h1, fun k hk R K => by have g := g k hk R K; clear h h1; unfold stepM; simp only [*]⟩)
    | exact ⟨0, _, h, fun k _ R K => by clear h; unfold stepM; simp only [*]⟩

theorem stepN_goes {m0 : Mem} {o : Oper} (h : stepN X F (callC X T) m0 o K' st) : Goes (fun k _ K => stepMN X F (pfT T) (callAt X T k) m0 o K st) K' := by
  unfold stepN at h
  split at h
  case h_4 =>
    rename_i hop
    split at h
    · rename_i g hg
      split at h
      · rename_i d hd
        simp only [callC] at hd
        cases hr : callR X T g ⟨[], []⟩ (argsD X st _) with
        | none => rw [hr] at hd; cases hd
        | some q =>
          obtain ⟨r, m'⟩ := q
          rw [hr] at hd
          cases hd
          obtain ⟨n, hn⟩ := callR_some hr
          have hg : pureOf (pfT T) F o.dst _ = some g := hg
          exact ⟨n, _, h, fun k hk R K => by unfold stepMN; rw [hop]; simp only [hg, hn k hk]⟩
      · exact h.elim
    · rename_i hg
      have hg : pureOf (pfT T) F o.dst _ = none := hg
      split at h
      · rename_i g cap hf
        split at h
        · rename_i hlt
          obtain ⟨n, s, h1, g⟩ := callN_goes h
          exact ⟨n, s, h1, fun k hk R K => by have g := g k hk R K; unfold stepMN; rw [hop]; simp only [hg, hf, hlt]; exact g⟩
        · exact h.elim
      · exact h.elim
  all_goals repeat' split at h
  all_goals first | exact h.elim | skip
  all_goals first
    | (obtain ⟨n, s, h1, g⟩ := pureN_goes h; exact ⟨n, s, h1, fun k hk R K => by have g := g k hk R K; clear h h1; unfold stepMN; simp only [*]⟩)
    | (obtain ⟨n, s, h1, g⟩ := make_goes h; exact ⟨n, s, h1, fun k hk R K => by have g := g k hk R K; clear h h1; unfold stepMN; simp only [*]⟩)
    | (obtain ⟨n, s, h1, g⟩ := row_goes h; exact ⟨n, s, h1, fun k hk R K => by have g := g k hk R K; clear h h1; unfold stepMN; simp only [*]⟩)
    | (obtain ⟨n, s, h1, g⟩ := allocN_goes h; exact ⟨n, s, h1, fun k hk R K => by have g := g k hk R K; clear h h1; unfold stepMN; simp only [*]⟩)
    | (obtain ⟨n, s, h1, g⟩ := storeN_goes h; exact ⟨n, s, h1, fun k hk R K => by have g := g k hk R K; clear h h1; unfold stepMN; simp only [*]⟩)
    | (obtain ⟨n, s, h1, g⟩ := callN_goes h; exact ⟨n, s, h1, fun k hk R K => by have g := g k hk R K; clear h h1; unfold stepMN; simp only [*]⟩)
    | exact ⟨0, _, h, fun k _ R K => by clear h; unfold stepMN; simp only [*]⟩

theorem op_goes {all : List Oper} {o : Oper} (h : opI X F (callC X T) all o K' st) : Goes (fun k _ K => opM X F (callAt X T k) all o K st) K' := by
  unfold opI at h
  split at h
  · rename_i hg; obtain ⟨n, s, h1, g⟩ := step_goes h; exact ⟨n, s, h1, fun k hk R K => by simp only [opM, hg]; exact g k hk R K⟩
  · rename_i j want hg
    split at h
    · rename_i b hb
      split at h
      · rename_i he; obtain ⟨n, s, h1, g⟩ := step_goes h; exact ⟨n, s, h1, fun k hk R K => by simp only [opM, hg, hb, he]; exact g k hk R K⟩
      · rename_i he; exact ⟨0, _, h, fun k _ R K => by simp only [opM, hg, hb, he]⟩
    · rename_i hb; exact ⟨0, _, h, fun k _ R K => by simp only [opM, hg, hb]⟩
    · exact h.elim
theorem opN_goes {m0 : Mem} {all : List Oper} {o : Oper} (h : opN X F (callC X T) m0 all o K' st) : Goes (fun k _ K => opMN X F (pfT T) (callAt X T k) m0 all o K st) K' := by
  unfold opN at h
  split at h
  · rename_i hg; obtain ⟨n, s, h1, g⟩ := stepN_goes h; exact ⟨n, s, h1, fun k hk R K => by simp only [opMN, hg]; exact g k hk R K⟩
  · rename_i j want hg
    split at h
    · rename_i b hb
      split at h
      · rename_i he; obtain ⟨n, s, h1, g⟩ := stepN_goes h; exact ⟨n, s, h1, fun k hk R K => by simp only [opMN, hg, hb, he]; exact g k hk R K⟩
      · rename_i he; exact ⟨0, _, h, fun k _ R K => by simp only [opMN, hg, hb, he]⟩
    · rename_i hb; exact ⟨0, _, h, fun k _ R K => by simp only [opMN, hg, hb]⟩
    · exact h.elim
theorem ops_goes {all : List Oper} : ∀ (l : List Oper) (st : St), wpOps X F (callC X T) all l K' st → Goes (fun k _ K => opsM X F (callAt X T k) all l K st) K'
  | [], st, h => ⟨0, st, h, fun k _ R K => rfl⟩
  | o :: r, st, h => by
    obtain ⟨n1, s1, h1, g1⟩ := op_goes (K' := wpOps X F (callC X T) all r K') h
    obtain ⟨n2, s2, h2, g2⟩ := ops_goes r s1 h1
    exact ⟨max n1 n2, s2, h2, fun k hk R K => by
      show opM X F (callAt X T k) all o (opsM X F (callAt X T k) all r K) st = K s2
      exact (g1 k (by omega) R _).trans (g2 k (by omega) R K)⟩
theorem opsN_goes {m0 : Mem} {all : List Oper} : ∀ (l : List Oper) (st : St), wpOpsN X F (callC X T) m0 all l K' st → Goes (fun k _ K => opsMN X F (pfT T) (callAt X T k) m0 all l K st) K'
  | [], st, h => ⟨0, st, h, fun k _ R K => rfl⟩
  | o :: r, st, h => by
    obtain ⟨n1, s1, h1, g1⟩ := opN_goes (K' := wpOpsN X F (callC X T) m0 all r K') h
    obtain ⟨n2, s2, h2, g2⟩ := opsN_goes r s1 h1
    exact ⟨max n1 n2, s2, h2, fun k hk R K => by
      show opMN X F (pfT T) (callAt X T k) m0 all o (opsMN X F (pfT T) (callAt X T k) m0 all r K) st = K s2
      exact (g1 k (by omega) R _).trans (g2 k (by omega) R K)⟩

/-- From n on the machine ends so. -/
theorem exec_of : ∀ (c : Code) (Q : Post) (st : St), wpI X F (callC X T) c Q st → ∃ n e st', Q e st' ∧ exec X T n F c st = some (e, st')
  | .skip, Q, st, h => ⟨1, .normal, st, h, rfl⟩
  | .region id ops dr, Q, st, h => by
    cases dr with
    | false =>
      obtain ⟨n, s, h1, g⟩ := ops_goes _ _ h
      exact ⟨n + 1, _, _, h1, by simp only [exec, keepF_eq]; exact g n (Nat.le_refl n) _ _⟩
    | true =>
      obtain ⟨n, s, h1, g⟩ := opsN_goes _ _ h.2
      exact ⟨n + 1, _, _, h1, by simp only [exec, keepF_eq, h.1]; exact g n (Nat.le_refl n) _ _⟩
  | .seq a b, Q, st, h => by
    obtain ⟨n1, e1, s1, h1, g1⟩ := exec_of a _ st h
    cases e1 with
    | normal =>
      obtain ⟨n2, e2, s2, h2, g2⟩ := exec_of b Q s1 h1
      refine ⟨max n1 n2 + 1, e2, s2, h2, ?_⟩
      rw [exec]
      simp only [thenM]
      rw [exec_le (Nat.le_max_left n1 n2) _ _ _ _ g1]
      exact exec_le (Nat.le_max_right n1 n2) _ _ _ _ g2
    | exit id => exact ⟨n1 + 1, _, s1, h1, by rw [exec]; simp only [thenM]; rw [g1]⟩
    | goto l => exact ⟨n1 + 1, _, s1, h1, by rw [exec]; simp only [thenM]; rw [g1]⟩
    | ret => exact ⟨n1 + 1, _, s1, h1, by rw [exec]; simp only [thenM]; rw [g1]⟩
    | panic c => exact ⟨n1 + 1, _, s1, h1, by rw [exec]; simp only [thenM]; rw [g1]⟩
    | outgrown => exact ⟨n1 + 1, _, s1, h1, by rw [exec]; simp only [thenM]; rw [g1]⟩
  | .cond c a b, Q, st, h => by
    simp only [wpI] at h
    split at h
    · rename_i t ht
      cases t with
      | true =>
        obtain ⟨n1, e1, s1, h1, g1⟩ := exec_of a Q st h
        exact ⟨n1 + 1, e1, s1, h1, by rw [exec]; simp only [ht]; exact g1⟩
      | false =>
        obtain ⟨n1, e1, s1, h1, g1⟩ := exec_of b Q st h
        exact ⟨n1 + 1, e1, s1, h1, by rw [exec]; simp only [ht]; exact g1⟩
    · exact h.elim
  | .block id a, Q, st, h => by
    obtain ⟨n1, e1, s1, h1, g1⟩ := exec_of a _ st h
    cases e1 with
    | exit id' =>
      simp only [blockP] at h1
      split at h1
      · rename_i he
        exact ⟨n1 + 1, _, s1, h1, by rw [exec]; rw [g1]; simp [he]⟩
      · rename_i he
        exact ⟨n1 + 1, _, s1, h1, by rw [exec]; rw [g1]; simp only [show id'.beq id = false from by cases hb : id'.beq id with | true => exact (he (Nat.eq_of_beq_eq_true hb)).elim | false => rfl]⟩
    | normal => exact ⟨n1 + 1, _, s1, h1, by rw [exec]; rw [g1]⟩
    | goto l => exact ⟨n1 + 1, _, s1, h1, by rw [exec]; rw [g1]⟩
    | ret => exact ⟨n1 + 1, _, s1, h1, by rw [exec]; rw [g1]⟩
    | panic c => exact ⟨n1 + 1, _, s1, h1, by rw [exec]; rw [g1]⟩
    | outgrown => exact ⟨n1 + 1, _, s1, h1, by rw [exec]; rw [g1]⟩
  | .exit id, Q, st, h => ⟨1, .exit id, st, h, rfl⟩
  | .ret, Q, st, h => ⟨1, .ret, st, h, rfl⟩
  | .loop a, Q, st, h => by
    obtain ⟨T', head, I, μ, ⟨p0, h0, hI⟩, hr⟩ := h
    have key : ∀ (m : Nat) (p : T'), μ p = m → I p → ∀ s : St, s.keep (liveOf F a) = head p → ∃ n e st', Q e st' ∧ exec X T n F (.loop a) s = some (e, st') := by
      intro m
      induction m using Nat.strongRecOn with
      | _ m ih =>
        intro p hm hp s hs
        obtain ⟨n1, e1, s1, h1, g1⟩ := exec_of a _ (head p) (hr p hp)
        cases e1 with
        | normal =>
          obtain ⟨p', hk, hI', hlt⟩ := h1
          obtain ⟨n2, e2, s2, h2, g2⟩ := ih (μ p') (hm ▸ hlt) p' rfl hI' s1 hk
          refine ⟨max n1 n2 + 1, e2, s2, h2, ?_⟩
          rw [exec]
          simp only [thenM, keepF_eq]
          rw [hs, exec_le (Nat.le_max_left n1 n2) _ _ _ _ g1]
          exact exec_le (Nat.le_max_right n1 n2) _ _ _ _ g2
        | exit id => exact ⟨n1 + 1, _, s1, h1, by rw [exec]; simp only [thenM, keepF_eq]; rw [hs, g1]⟩
        | goto l => exact ⟨n1 + 1, _, s1, h1, by rw [exec]; simp only [thenM, keepF_eq]; rw [hs, g1]⟩
        | ret => exact ⟨n1 + 1, _, s1, h1, by rw [exec]; simp only [thenM, keepF_eq]; rw [hs, g1]⟩
        | panic c => exact ⟨n1 + 1, _, s1, h1, by rw [exec]; simp only [thenM, keepF_eq]; rw [hs, g1]⟩
        | outgrown => exact ⟨n1 + 1, _, s1, h1, by rw [exec]; simp only [thenM, keepF_eq]; rw [hs, g1]⟩
    exact key _ p0 rfl hI st h0
  | .rangeFunc _ _ _ _, Q, st, h => h.elim
  | .scope _, Q, st, h => h.elim
  | .label _, Q, st, h => h.elim
  | .goto _, Q, st, h => h.elim
  | .refuse _, Q, st, h => h.elim

theorem endP_endM {rs : List ResultVar} {e : Exit} {st : St} {Q : D → Mem → Prop} (h : endP X rs Q e st) : ∃ r m, endM X rs (e, st) = some (r, m) ∧ Q r m := by
  cases e <;> simp only [endP] at h <;> first
    | exact h.elim
    | (split at h
       · rename_i d hd; exact ⟨d, st.m, by simp only [endM, hd], h⟩
       · exact h.elim)

/-- What the body of a function on its own returns. -/
noncomputable def callP (X : Ctx) (T : Nat → Option Fx) (g : Nat) (ds : List D) : Option D := (callR X T g ⟨[], []⟩ ds).map (·.1)

/-- A function by its body: one that is handed memory. -/
theorem callR_of {f : Nat} {fx : Fx} {m : Mem} {ds : List D} {Q : D → Mem → Prop} (hT : T f = some fx) (hcl : fx.cl = false) (hf : Nat.ble 200000 f = false) (hl : Nat.ble ds.length fx.n = true) (h : wpI X fx.F (callC X T) fx.code (endP X fx.rs Q) (entry ds m)) :
    ∃ r m', callR X T f m ds = some (r, m') ∧ Q r m' := by
  obtain ⟨n, e, st, h1, g⟩ := exec_of _ _ _ h
  obtain ⟨r, m', he, hq⟩ := endP_endM h1
  refine ⟨r, m', callR_of_at (n := n) ?_, hq⟩
  unfold callAt callBy
  simp only [hT, hl, hcl, hf, bodyBy, forceL_eq, forceM_eq, g, he]
theorem callR_eq {f : Nat} {fx : Fx} {m : Mem} {ds : List D} {v : D} {m1 : Mem} (hT : T f = some fx) (hcl : fx.cl = false) (hf : Nat.ble 200000 f = false) (hl : Nat.ble ds.length fx.n = true)
    (h : wpI X fx.F (callC X T) fx.code (endP X fx.rs fun r m' => r = v ∧ m' = m1) (entry ds m)) : callR X T f m ds = some (v, m1) := by
  obtain ⟨r, m', h1, rfl, rfl⟩ := callR_of hT hcl hf hl h
  exact h1

/-- A function on its own, by its body. -/
theorem callR_cl {f : Nat} {fx : Fx} {ds : List D} {Q : D → Mem → Prop} (hT : T f = some fx) (hcl : fx.cl = true) (hl : Nat.ble ds.length fx.n = true) (h : wpI X fx.F (callC X T) fx.code (endP X fx.rs Q) (entry (stripL ds) ⟨[], []⟩)) :
    ∃ r m', Q r m' ∧ ∀ m, callR X T f m ds = some (frz m' r, m) := by
  obtain ⟨n, e, st, h1, g⟩ := exec_of _ _ _ h
  obtain ⟨r, m', he, hq⟩ := endP_endM h1
  refine ⟨r, m', hq, fun m => callR_of_at (n := n) ?_⟩
  unfold callAt callBy
  simp only [hT, hl, hcl, bodyBy, forceL_eq, forceM_eq, g, he]
end
end Go.Eng
/- Tables of functions. -/
namespace Go.Eng
open Go

def fiOf : List (Nat × Fi) → Nat → Option Fi
  | [], _ => none
  | (i, F) :: r, f => match Nat.beq i f with | true => some F | false => fiOf r f
/-- The table: functions with what is known of their slots; cl: those that are on their own. -/
def mkT (P : Program) (tab : List (Nat × Fi)) (cl : List Nat) (f : Nat) : Option Fx :=
  match fiOf tab f with
  | some F => (match P.funcs[f % 100000]? with
    | some fn => (match fn.body with
      | some c => some ⟨F, fn.ntmps, fn.results.toList, c, memB cl f⟩
      | none => none)
    | none => none)
  | none => none
def okF (P : Program) (pf : Nat → Bool) (f : Nat) (F : Fi) : Bool :=
  match P.funcs[f % 100000]? with
  | some fn => (match fn.body with
    | some c => enterable P (f % 100000) && codeOk P pf F fn.ntmps c
    | none => true)
  | none => true
def okTab (P : Program) (pf : Nat → Bool) : List (Nat × Fi) → Bool
  | [] => true
  | (f, F) :: r => okF P pf f F && okTab P pf r

theorem okTab_of {P : Program} {pf : Nat → Bool} : ∀ {tab : List (Nat × Fi)} {f : Nat} {F : Fi}, okTab P pf tab = true → fiOf tab f = some F → okF P pf f F = true
  | [], f, F, _, h => by cases h
  | (i, F') :: r, f, F, ho, h => by
    simp only [okTab, Bool.and_eq_true] at ho
    simp only [fiOf] at h
    split at h
    · rename_i he; cases h; rw [← Nat.eq_of_beq_eq_true he]; exact ho.1
    · exact okTab_of ho.2 h

theorem allGood_of {X : Ctx} (hG : PlainG X) {tab : List (Nat × Fi)} {cl : List Nat} (ho : okTab X.P (pfT (mkT X.P tab cl)) tab = true) : AllGood X (mkT X.P tab cl) := by
  refine ⟨hG, fun f fx h => ?_⟩
  have h0 := h
  unfold mkT at h
  split at h
  · rename_i F hF
    have hok := okTab_of ho hF
    split at h
    · rename_i fn hfn
      split at h
      · rename_i c hc
        cases h
        unfold okF at hok
        rw [hfn] at hok
        simp only [hc, Bool.and_eq_true] at hok
        exact ⟨fn, hfn, hc, rfl, rfl, hok.1, hok.2⟩
      · cases h
    · cases h
  · cases h

section
variable {X : Ctx} {T : Nat → Option Fx}
theorem callR_body {f : Nat} {F : Fi} {n : Nat} {rs : List ResultVar} {c : Code} {m : Mem} {ds : List D} {Q : D → Mem → Prop} (hT : T f = some ⟨F, n, rs, c, false⟩) (hl : Nat.ble ds.length n = true)
    (h : wpI X F (callC X T) c (endP X rs Q) (entry ds m)) (hf : Nat.ble 200000 f = false := by decide) : ∃ r m', callR X T f m ds = some (r, m') ∧ Q r m' := callR_of hT rfl hf hl h
theorem callR_val {f : Nat} {F : Fi} {n : Nat} {rs : List ResultVar} {c : Code} {m : Mem} {ds : List D} {v : D} {m1 : Mem} (hT : T f = some ⟨F, n, rs, c, false⟩) (hl : Nat.ble ds.length n = true)
    (h : wpI X F (callC X T) c (endP X rs fun r m' => r = v ∧ m' = m1) (entry ds m)) (hf : Nat.ble 200000 f = false := by decide) : callR X T f m ds = some (v, m1) := callR_eq hT rfl hf hl h
/-- A function on its own: what it returns for arguments without rights. -/
theorem callP_val {f : Nat} {F : Fi} {n : Nat} {rs : List ResultVar} {c : Code} {ds : List D} {v : D} (hT : T f = some ⟨F, n, rs, c, true⟩) (hl : Nat.ble ds.length n = true) (hs : stripL ds = ds)
    (h : wpI X F (callC X T) c (endP X rs fun r m => frz m r = v) (entry ds ⟨[], []⟩)) : callP X T f ds = some v := by
  obtain ⟨r, m', h1, h2⟩ := callR_cl hT rfl hl (by rw [hs]; exact h)
  unfold callP
  rw [h2]
  simp only [Option.map_some, h1]
theorem callP_body {f : Nat} {F : Fi} {n : Nat} {rs : List ResultVar} {c : Code} {ds : List D} {Q : D → Prop} (hT : T f = some ⟨F, n, rs, c, true⟩) (hl : Nat.ble ds.length n = true) (hs : stripL ds = ds)
    (h : wpI X F (callC X T) c (endP X rs fun r m => Q (frz m r)) (entry ds ⟨[], []⟩)) : ∃ v, callP X T f ds = some v ∧ Q v := by
  obtain ⟨r, m', h1, h2⟩ := callR_cl hT rfl hl (by rw [hs]; exact h)
  refine ⟨frz m' r, ?_, h1⟩
  unfold callP
  rw [h2]
  rfl
theorem frzM_scal (m : Mem) : ∀ (n a b c d : Nat), scal (frzM m n a b c d) = false
  | 0, _, _, _, _ => rfl
  | n + 1, a, b, c, d => by
    simp only [frzM]
    split
    · rename_i cs _
      cases decide (b + c * d ≤ cs.length) <;> rfl
    · rfl
mutual
theorem frz_scal (m : Mem) (n : Nat) : ∀ (d : D), scal (stripF (frzM m n) d) = true → stripF (frzM m n) d = d
  | .int _ _, _ => rfl
  | .bool _, _ => rfl
  | .str _, _ => rfl
  | .slice _ _ _, h => by cases h
  | .nil, h => by cases h
  | .opq, h => by cases h
  | .rsl a b c d, h => by
    have : scal (frzM m n a b c d) = true := h
    rw [frzM_scal] at this; cases this
  | .ptr _ _, h => by cases h
  | .nilptr, h => by cases h
  | .ref _ _, h => by cases h
  | .func _ _, h => by cases h
  | .nilfunc, h => by cases h
  | .agg _, h => by cases h
  | .undef, h => by cases h
  | .tuple ds, h => by
    have h : scalL (stripFL (frzM m n) ds) = true := h
    have := frz_scalL m n ds h
    show D.tuple (stripFL (frzM m n) ds) = D.tuple ds
    rw [this]
theorem frz_scalL (m : Mem) (n : Nat) : ∀ (l : List D), scalL (stripFL (frzM m n) l) = true → stripFL (frzM m n) l = l
  | [], _ => rfl
  | d :: r, h => by
    have h : (match scal (stripF (frzM m n) d) with | true => scalL (stripFL (frzM m n) r) | false => false) = true := h
    cases hd : scal (stripF (frzM m n) d) with
    | false => rw [hd] at h; cases h
    | true =>
      rw [hd] at h
      have h1 := frz_scal m n d hd
      have h2 := frz_scalL m n r h
      show stripF (frzM m n) d :: stripFL (frzM m n) r = d :: r
      rw [h1, h2]
end
/-- A function on its own that returns scalars, called with boxes: it sees what lies in them. -/
theorem callR_frz {g : Nat} {F : Fi} {n : Nat} {rs : List ResultVar} {c : Code} (hT : T g = some ⟨F, n, rs, c, true⟩) (hT' : T (g + 200000) = some ⟨F, n, rs, c, false⟩) {m : Mem} {ds l : List D} {v : D} (hl : frzL m ds = l) (hst : stripL l = l)
    (h : callP X T g l = some v) (hs : scal v = true) : callR X T (g + 200000) m ds = some (v, m) := by
  unfold callP at h
  cases hq : callR X T g ⟨[], []⟩ l with
  | none => rw [hq] at h; cases h
  | some q =>
    rw [hq] at h
    obtain ⟨k, hk⟩ := callR_some hq
    have hk := hk k (Nat.le_refl k)
    refine callR_of_at (n := k) ?_
    have hlen : ds.length = l.length := by rw [← hl, frzL_length]
    unfold callAt callBy at hk ⊢
    rw [hT] at hk
    rw [hT']
    simp only [hst] at hk
    simp only [hlen, hl]
    cases hb : Nat.ble l.length n with
    | false => rw [hb] at hk; cases hk
    | true =>
      rw [hb] at hk
      have h2 : Nat.ble 200000 (g + 200000) = true := Nat.ble_eq_true_of_le (Nat.le_add_left _ _)
      simp only [h2] at hk ⊢
      have hbody : ∀ m0 ds0, bodyBy X (exec X T k) ⟨F, n, rs, c, true⟩ m0 ds0 = bodyBy X (exec X T k) ⟨F, n, rs, c, false⟩ m0 ds0 := fun _ _ => rfl
      rw [hbody] at hk
      cases hx : bodyBy X (exec X T k) ⟨F, n, rs, c, false⟩ ⟨[], []⟩ l with
      | none => rw [hx] at hk; cases hk
      | some p =>
        obtain ⟨r0, m0⟩ := p
        rw [hx] at hk
        simp only at hk ⊢
        have hv : frz m0 r0 = v := by
          have h3 := congrArg Prod.fst (Option.some.inj hk)
          have h4 := Option.some.inj h
          exact h3.trans h4
        have hv2 : stripF (frzM m0 m0.boxes.length) r0 = v := hv
        have e := frz_scal m0 m0.boxes.length r0 (by rw [hv2]; exact hs)
        have : r0 = v := e.symm.trans hv2
        have hfz : frz m0 v = v := by rw [← this]; exact hv.trans this.symm
        rw [this, scal_frs m0 v hs, hfz]
/-- A function on its own that sees what lies in boxes and hands back what it has made. -/
theorem callF_val {g : Nat} {F : Fi} {n : Nat} {rs : List ResultVar} {c : Code} (hT : T g = some ⟨F, n, rs, c, false⟩) {m : Mem} {ds l : List D} {v : D} (hl : frzL m ds = l) (hle : Nat.ble l.length n = true)
    (h : wpI X F (callC X T) c (endP X rs fun r m => frs m r = true ∧ frz m r = v) (entry l ⟨[], []⟩)) (hf : Nat.ble 200000 g = true := by decide) : callR X T g m ds = some (v, m) := by
  obtain ⟨k, e, st, h1, g1⟩ := exec_of _ _ _ h
  obtain ⟨r, m', he, h2, h3⟩ := endP_endM h1
  have hlen : ds.length = l.length := by rw [← hl, frzL_length]
  refine callR_of_at (n := k) ?_
  unfold callAt callBy
  simp only [hT, hlen, hle, hf, hl, bodyBy, forceL_eq, forceM_eq, g1, he, h2, h3]
/-- A function on its own, from its variant that hands memory back. -/
theorem callP_var {g : Nat} {F : Fi} {n : Nat} {rs : List ResultVar} {c : Code} (hT : T g = some ⟨F, n, rs, c, true⟩) (hT' : T (g + 100000) = some ⟨F, n, rs, c, false⟩) (hf : Nat.ble 200000 (g + 100000) = false) {l : List D} (hst : stripL l = l) {r : D} {m0 : Mem}
    (h : callR X T (g + 100000) ⟨[], []⟩ l = some (r, m0)) : callP X T g l = some (frz m0 r) := by
  obtain ⟨k, hk⟩ := callR_some h
  have hk := hk k (Nat.le_refl k)
  have key : callR X T g ⟨[], []⟩ l = some (frz m0 r, ⟨[], []⟩) := by
    refine callR_of_at (n := k) ?_
    unfold callAt callBy at hk ⊢
    rw [hT'] at hk
    rw [hT]
    simp only [hst]
    cases hb : Nat.ble l.length n with
    | false => simp only [hb] at hk; cases hk
    | true =>
      simp only [hb, hf] at hk ⊢
      have hbody : ∀ m0 ds0, bodyBy X (exec X T k) ⟨F, n, rs, c, true⟩ m0 ds0 = bodyBy X (exec X T k) ⟨F, n, rs, c, false⟩ m0 ds0 := fun _ _ => rfl
      rw [hbody, hk]
  unfold callP
  rw [key]; rfl
/-- A call of a function on its own. -/
theorem callR_own {g : Nat} (hp : pfT T g = true) (m : Mem) (ds : List D) : callR X T g m ds = (match callP X T g (stripL ds) with | some v => some (v, m) | none => none) := by
  have hst : ∀ ds : List D, stripL (stripL ds) = stripL ds := stripL_idem
  have key : ∀ (n : Nat) (m : Mem) (ds : List D), callAt X T n g m ds = (callAt X T n g ⟨[], []⟩ (stripL ds)).map fun p => (p.1, m) := fun n m ds => by
    unfold callAt callBy
    unfold pfT at hp
    cases hT : T g with
    | none => rfl
    | some fx =>
      rw [hT] at hp
      have hp : fx.cl = true := hp
      simp only [hp, hst, stripL_length]
      cases Nat.ble ds.length fx.n with
      | false => rfl
      | true =>
        simp only
        cases bodyBy X (exec X T n) fx ⟨[], []⟩ (stripL ds) <;> rfl
  unfold callP
  cases h : callR X T g ⟨[], []⟩ (stripL ds) with
  | none =>
    simp only [Option.map_none]
    cases h2 : callR X T g m ds with
    | none => rfl
    | some q =>
      obtain ⟨n, hn⟩ := callR_some h2
      have := key n m ds
      rw [hn n (Nat.le_refl n)] at this
      cases h3 : callAt X T n g ⟨[], []⟩ (stripL ds) with
      | none => rw [h3] at this; cases this
      | some q2 => rw [callR_of_at h3] at h; cases h
  | some q =>
    obtain ⟨n, hn⟩ := callR_some h
    have := key n m ds
    rw [hn n (Nat.le_refl n)] at this
    rw [callR_of_at this]
    rfl

@[go_sem] theorem callN_eq (b : Bool) (g : Nat) (ds : List D) (dst : Option Nat) (K : St → Prop) (st : St) : callN (callC X T) b g ds dst K st = match callR X T g st.m ds with | some (r, m') => (b = true ∨ Sub st.m m') ∧ K ((st.put dst r).setM m') | none => False := by
  apply propext
  unfold callN
  simp only [callC_run]
  cases callR X T g st.m ds with
  | none => exact ⟨fun ⟨_, _, h, _⟩ => h, fun h => h.elim⟩
  | some p =>
    obtain ⟨r, m'⟩ := p
    exact ⟨fun ⟨T', _, h, h2⟩ => h2 r m' h, fun h => ⟨fun a b => a = r ∧ b = m', ⟨r, m', rfl, rfl⟩, ⟨rfl, rfl⟩, fun a b ⟨e1, e2⟩ => by subst e1; subst e2; exact h⟩⟩
@[go_sem] theorem orS_false (p : Prop) : (false = true ∨ p) = p := by simp
@[go_sem] theorem orS_true (p : Prop) : (true = true ∨ p) = True := by simp
theorem Sub.refl (m : Mem) : Sub m m := fun _ _ h => h
@[go_sem] theorem Sub_self (m : Mem) : Sub m m = True := eq_true (Sub.refl m)
@[go_sem] theorem Sub_toks (b : List (List D)) (t t' : List Nat) : Sub ⟨b, t⟩ ⟨b, t'⟩ = True := eq_true fun _ _ h => h
end
end Go.Eng
/- The equations by which the abstract machine is run ('simp only [go_sem]'). -/
namespace Go.Eng
open Go
section
variable {X : Ctx} {F : Fi} {C : CallW} {st : St} {m : Mem} {α : Type}
@[go_sem] theorem upd_at (f : Nat → α) (x : Nat) (a : α) (y : Nat) : upd f x a y = if y = x then a else f y := rfl
@[go_sem] theorem slL_nil (y : Nat) : slL [] y = .undef := rfl
@[go_sem] theorem slL_cons (x : Nat) (a : D) (r : List (Nat × D)) (y : Nat) : slL ((x, a) :: r) y = if y = x then a else slL r y := rfl
@[go_sem] theorem opL_nil (y : Nat) : opL ([] : List (Nat × α)) y = none := rfl
@[go_sem] theorem opL_cons (x : Nat) (a : α) (r : List (Nat × α)) (y : Nat) : opL ((x, a) :: r) y = if y = x then some a else opL r y := rfl
@[go_sem] theorem keepS_nil (f : Nat → D) : keepS f [] = [] := rfl
@[go_sem] theorem keepS_cons (f : Nat → D) (x : Nat) (r : List Nat) : keepS f (x :: r) = (x, f x) :: keepS f r := rfl
@[go_sem] theorem keepO_nil (f : Nat → Option α) : keepO f [] = [] := rfl
@[go_sem] theorem keepO_cons (f : Nat → Option α) (x : Nat) (r : List Nat) : keepO f (x :: r) = match f x with | some a => (x, a) :: keepO f r | none => keepO f r := rfl
@[go_sem] theorem memB_nil (x : Nat) : memB [] x = false := rfl
@[go_sem] theorem memB_cons (y : Nat) (r : List Nat) (x : Nat) : memB (y :: r) x = if y = x then true else memB r x := rfl
@[go_sem] theorem keepReg_some (l : List Nat) (k o : Nat) : keepReg l (some (k, o)) = match memB l k with | true => some (k, o) | false => none := rfl
@[go_sem] theorem keepReg_none (l : List Nat) : keepReg l none = none := rfl
@[go_sem] theorem keepR_at (l : List Nat) (lp : Nat → Option (Nat × Nat)) (x : Nat) : keepR l lp x = keepReg l (lp x) := rfl
@[go_sem] theorem keep_eq (l : List Nat) (sl lp bx) (m : Mem) : St.keep ⟨sl, lp, bx, m⟩ l = ⟨slL (keepS sl l), opL (keepO (keepR l lp) l), opL (keepO bx l), m⟩ := rfl
@[go_sem] theorem dropReg_some (t k o : Nat) : dropReg t (some (k, o)) = if k = t then none else some (k, o) := rfl
@[go_sem] theorem dropReg_none (t : Nat) : dropReg t none = none := rfl
@[go_sem] theorem dropKey_at (t : Nat) (lp : Nat → Option (Nat × Nat)) (x : Nat) : dropKey t lp x = dropReg t (lp x) := rfl
@[go_sem] theorem updReg_none (lp : Nat → Option (Nat × Nat)) (x : Nat) : updReg none lp x = lp := rfl
@[go_sem] theorem updReg_some (a : Nat × Nat) (lp : Nat → Option (Nat × Nat)) (x : Nat) : updReg (some a) lp x = upd lp x none := rfl
@[go_sem] theorem put_some (sl lp bx) (m : Mem) (x : Nat) (d : D) : St.put ⟨sl, lp, bx, m⟩ (some x) d = ⟨upd sl x d, updReg (lp x) lp x, bx, m⟩ := rfl
@[go_sem] theorem put_none (st : St) (d : D) : st.put none d = st := rfl
@[go_sem] theorem setM_eq (sl lp bx) (m m' : Mem) : St.setM ⟨sl, lp, bx, m⟩ m' = ⟨sl, lp, bx, m'⟩ := rfl
@[go_sem] theorem putL_eq (sl lp bx) (m : Mem) (x k o : Nat) : St.putL ⟨sl, lp, bx, m⟩ x k o = ⟨upd sl x .undef, upd lp x (some (k, o)), bx, m⟩ := rfl
@[go_sem] theorem dropIf_none (x : Nat) (lp : Nat → Option (Nat × Nat)) : dropIf (none : Option α) x lp = lp := rfl
@[go_sem] theorem dropIf_some (a : α) (x : Nat) (lp : Nat → Option (Nat × Nat)) : dropIf (some a) x lp = dropKey x lp := rfl
@[go_sem] theorem newBox_eq (sl lp bx) (m : Mem) (x : Nat) (cs : List D) : St.newBox ⟨sl, lp, bx, m⟩ x cs = ⟨upd sl x .undef, upd (dropIf (bx x) x lp) x (some (x, 0)), upd bx x (some cs), m⟩ := rfl
@[go_sem] theorem ev_tmp (sl lp bx) (m : Mem) (x : Nat) : ev X ⟨sl, lp, bx, m⟩ (.tmp x) = sl x := rfl
@[go_sem] theorem ev_int (st : St) (k : IntKind) (n : Int) : ev X st (.const (.int k n)) = .int k n := rfl
@[go_sem] theorem ev_bool (st : St) (b : Bool) : ev X st (.const (.bool b)) = .bool b := rfl
@[go_sem] theorem ev_str (st : St) (s : ByteArray) : ev X st (.const (.string s)) = .str s.data.toList := rfl
@[go_sem] theorem ev_nil (st : St) : ev X st (.const (.slice none 0 0)) = .nil := rfl
@[go_sem] theorem ev_nilptr (st : St) : ev X st (.const (.pointer none)) = .nilptr := rfl
@[go_sem] theorem ev_nilfunc (st : St) : ev X st (.const .nilFunc) = .nilfunc := rfl
@[go_sem] theorem ev_func (st : St) (f : Nat) : ev X st (.func f) = .func f [] := rfl
@[go_sem] theorem ev_global (st : St) (g : Nat) : ev X st (.global g) = match X.G g with | some cs => .ref cs 0 | none => .undef := rfl
@[go_sem] theorem argsD_nil (st : St) : argsD X st [] = [] := rfl
@[go_sem] theorem argsD_cons (st : St) (x : Operand) (r : List Operand) : argsD X st (x :: r) = ev X st x :: argsD X st r := rfl
@[go_sem] theorem partsD_nil (st : St) : partsD X st [] = [] := rfl
@[go_sem] theorem partsD_cons (st : St) (i : Nat) (x : Operand) (r : List (Nat × Operand)) : partsD X st ((i, x) :: r) = (i, ev X st x) :: partsD X st r := rfl
@[go_sem] theorem cells_agg (cs : List D) : (D.agg cs).cells = cs := rfl
@[go_sem] theorem cells_int (k : IntKind) (n : Int) : (D.int k n).cells = [.int k n] := rfl
@[go_sem] theorem cells_bool (b : Bool) : (D.bool b).cells = [.bool b] := rfl
@[go_sem] theorem cells_str (s : List UInt8) : (D.str s).cells = [.str s] := rfl
@[go_sem] theorem cells_slice (t : Option Nat) (k : Nat) (es : List D) : (D.slice t k es).cells = [.slice t k es] := rfl
@[go_sem] theorem cells_nil : D.nil.cells = [.nil] := rfl
@[go_sem] theorem cells_opq : D.opq.cells = [.opq] := rfl
@[go_sem] theorem cells_ref (c : List D) (o : Nat) : (D.ref c o).cells = [.ref c o] := rfl
@[go_sem] theorem cells_ptr (i o : Nat) : (D.ptr i o).cells = [.ptr i o] := rfl
@[go_sem] theorem cells_nilptr : D.nilptr.cells = [.nilptr] := rfl
@[go_sem] theorem cells_func (f : Nat) (c : List D) : (D.func f c).cells = [.func f c] := rfl
@[go_sem] theorem okC_int (k : IntKind) (n : Int) : (D.int k n).okC = true := rfl
@[go_sem] theorem okC_bool (b : Bool) : (D.bool b).okC = true := rfl
@[go_sem] theorem okC_str (s : List UInt8) : (D.str s).okC = true := rfl
@[go_sem] theorem okC_slice (t : Option Nat) (k : Nat) (es : List D) : (D.slice t k es).okC = true := rfl
@[go_sem] theorem okC_nil  : (D.nil).okC = true := rfl
@[go_sem] theorem okC_ptr (a b : Nat) : (D.ptr a b).okC = true := rfl
@[go_sem] theorem okC_nilptr  : (D.nilptr).okC = true := rfl
@[go_sem] theorem okC_ref (c : List D) (o : Nat) : (D.ref c o).okC = true := rfl
@[go_sem] theorem okC_func (f : Nat) (c : List D) : (D.func f c).okC = true := rfl
@[go_sem] theorem okC_nilfunc  : (D.nilfunc).okC = true := rfl
@[go_sem] theorem okC_agg (c : List D) : (D.agg c).okC = true := rfl
-- operations
@[go_sem] theorem pure_move (x : Operand) : pureD X m st (.move x) = some (ev X st x) := rfl
@[go_sem] theorem pure_assign (x : Operand) : pureD X m st (.assign x) = some (ev X st x) := rfl
@[go_sem] theorem pure_pick (c a b : Operand) : pureD X m st (.pick c a b) = pickD (ev X st c) (ev X st a) (ev X st b) := rfl
@[go_sem] theorem pick_true (a b : D) : pickD (.bool true) a b = some a := rfl
@[go_sem] theorem pick_false (a b : D) : pickD (.bool false) a b = some b := rfl
@[go_sem] theorem pure_load (t : Nat) (p : Operand) : pureD X m st (.load t p) = match place X m st p with | some (cs, off) => takeD X.P t cs off | none => none := rfl
@[go_sem] theorem place_tmp (sl lp bx) (m' m : Mem) (t : Nat) : place X m ⟨sl, lp, bx, m'⟩ (.tmp t) = match lp t with
    | some (key, off) => match bx key with | some cs => some (cs, off) | none => none
    | none => placeV m (sl t) := rfl
@[go_sem] theorem place_global (st : St) (m : Mem) (g : Nat) : place X m st (.global g) = placeV m (match X.G g with | some cs => .ref cs 0 | none => .undef) := rfl
@[go_sem] theorem placeV_ref (cs : List D) (o : Nat) : placeV m (.ref cs o) = some (cs, o) := rfl
@[go_sem] theorem placeV_ptr (id o : Nat) : placeV m (.ptr id o) = match m.boxes[id]? with | some cs => some (cs, o) | none => none := rfl
@[go_sem] theorem pure_nilCheck (x : Operand) : pureD X m st (.nilCheck x) = match ev X st x with
    | .ptr a b => some (.ptr a b)
    | .ref a b => some (.ref a b)
    | .func a b => some (.func a b)
    | _ => none := rfl
@[go_sem] theorem pure_unOp (op : UnOp) (t : Nat) (x : Operand) : pureD X m st (.unOp op t x) = unD op (ev X st x) := rfl
@[go_sem] theorem un_not (b : Bool) : unD .not (.bool b) = some (.bool (!b)) := rfl
@[go_sem] theorem un_neg (k : IntKind) (n : Int) : unD .neg (.int k n) = some (.int k (k.wrap (0 - n))) := rfl
@[go_sem] theorem binI_add (k : IntKind) (a b : Int) : binI .add k a b = some (.int k (k.wrap (a + b))) := rfl
@[go_sem] theorem binI_sub (k : IntKind) (a b : Int) : binI .sub k a b = some (.int k (k.wrap (a - b))) := rfl
@[go_sem] theorem binI_mul (k : IntKind) (a b : Int) : binI .mul k a b = some (.int k (k.wrap (a * b))) := rfl
@[go_sem] theorem binI_lss (k : IntKind) (a b : Int) : binI .lss k a b = some (.bool (decide (a < b))) := rfl
@[go_sem] theorem binI_leq (k : IntKind) (a b : Int) : binI .leq k a b = some (.bool (decide (a ≤ b))) := rfl
@[go_sem] theorem binI_gtr (k : IntKind) (a b : Int) : binI .gtr k a b = some (.bool (decide (b < a))) := rfl
@[go_sem] theorem binI_geq (k : IntKind) (a b : Int) : binI .geq k a b = some (.bool (decide (b ≤ a))) := rfl
@[go_sem] theorem binI_eql (k : IntKind) (a b : Int) : binI .eql k a b = some (.bool (a == b)) := rfl
@[go_sem] theorem binI_neq (k : IntKind) (a b : Int) : binI .neq k a b = some (.bool (a != b)) := rfl
@[go_sem] theorem bin_bool_eql (P : Program) (t : Nat) (a b : Bool) : binD P t .eql (.bool a) (.bool b) = match eqD P t (.bool a) (.bool b) with | some b => some (.bool b) | none => none := rfl
@[go_sem] theorem bin_bool_neq (P : Program) (t : Nat) (a b : Bool) : binD P t .neq (.bool a) (.bool b) = match eqD P t (.bool a) (.bool b) with | some b => some (.bool (!b)) | none => none := rfl
@[go_sem] theorem bin_agg_eql (P : Program) (t : Nat) (a b : List D) : binD P t .eql (.agg a) (.agg b) = match eqD P t (.agg a) (.agg b) with | some b => some (.bool b) | none => none := rfl
@[go_sem] theorem bin_agg_neq (P : Program) (t : Nat) (a b : List D) : binD P t .neq (.agg a) (.agg b) = match eqD P t (.agg a) (.agg b) with | some b => some (.bool (!b)) | none => none := rfl
@[go_sem] theorem bin_nil_eql (P : Program) (t : Nat) (a : D) : binD P t .eql a .nil = match eqD P t a .nil with | some b => some (.bool b) | none => none := by cases a <;> rfl
@[go_sem] theorem bin_nil_neq (P : Program) (t : Nat) (a : D) : binD P t .neq a .nil = match eqD P t a .nil with | some b => some (.bool (!b)) | none => none := by cases a <;> rfl
@[go_sem] theorem eqD_agg (P : Program) (t : Nat) (a b : List D) : eqD P t (.agg a) (.agg b) = match eqTags P t with | some gs => eqT gs a b | none => none := rfl
@[go_sem] theorem eqD_bool (P : Program) (t : Nat) (a b : Bool) : eqD P t (.bool a) (.bool b) = bif isBoolT P t then some (a == b) else none := rfl
@[go_sem] theorem eqD_nil (P : Program) (t : Nat) : eqD P t .nil .nil = match sliceElem P t with | some _ => some true | none => none := rfl
@[go_sem] theorem eqD_slice (P : Program) (t : Nat) (g : Option Nat) (k : Nat) (es : List D) : eqD P t (.slice g k es) .nil = match sliceElem P t with | some _ => some false | none => none := rfl
@[go_sem] theorem eqT_nil : eqT [] [] [] = some true := rfl
@[go_sem] theorem eqT_cons (g : Nat) (gs : List Nat) (a b : D) (x y : List D) : eqT (g :: gs) (a :: x) (b :: y) = match eqC g a b, eqT gs x y with | some p, some q => some (p && q) | _, _ => none := rfl
@[go_sem] theorem eqC_int (a b : Int) : eqC 0 (.int .i64 a) (.int .i64 b) = some (a == b) := rfl
@[go_sem] theorem eqC_bool (a b : Bool) : eqC 1 (.bool a) (.bool b) = some (a == b) := rfl
@[go_sem] theorem eqC_str (a b : List UInt8) : eqC 2 (.str a) (.str b) = some (a == b) := rfl
@[go_sem] theorem pure_makeFunc (f : Nat) (c : List Operand) : pureD X m st (.makeFunc (.func f) #[] c.toArray) = some (.func f (c.map (ev X st))) := rfl
@[go_sem] theorem pure_field (t : Nat) (x : Operand) (i : Nat) : pureD X m st (.field t x i) = match fieldOff X.P t i, fieldTy X.P t i, ev X st x with
    | some off, some ft, .agg cs => takeD X.P ft cs off
    | _, _, _ => none := rfl
@[go_sem] theorem fillS_nil (P : Program) (t : Nat) (cs : List D) : fillS P t cs [] = some cs := rfl
@[go_sem] theorem fillS_cons (P : Program) (t : Nat) (cs : List D) (i : Nat) (d : D) (r : List (Nat × D)) : fillS P t cs ((i, d) :: r) = match fieldOff P t i, (fieldTy P t i).bind (szOf P) with
    | some off, some n => bif d.okC && decide (d.cells.length = n) && decide (off + n ≤ cs.length) then fillS P t (setRow cs off d.cells) r else none
    | _, _ => none := rfl
@[go_sem] theorem fillA_nil (es : List D) (k : Nat) : fillA es k [] = some es := rfl
@[go_sem] theorem fillA_cons (es : List D) (k i : Nat) (d : D) (r : List (Nat × D)) : fillA es k ((i, d) :: r) = bif d.okC && decide (d.cells.length = k) && decide (i < es.length) then fillA (es.set i d) k r else none := rfl
@[go_sem] theorem setRow_nil (cs : List D) (o : Nat) : setRow cs o [] = cs := rfl
@[go_sem] theorem setRow_cons (cs : List D) (o : Nat) (d : D) (r : List D) : setRow cs o (d :: r) = setRow (cs.set o d) (o + 1) r := rfl
@[go_sem] theorem pure_fieldAddr_tmp (sl lp bx) (m' m : Mem) (t : Nat) (x i : Nat) : pureD X m ⟨sl, lp, bx, m'⟩ (.fieldAddr t (.tmp x) i) = match fieldOff X.P t i, sl x with
    | some o, .ref cs off => some (.ref cs (off + o))
    | some o, .ptr id off => some (.ptr id (off + o))
    | _, _ => none := rfl
@[go_sem] theorem pure_index (t : Nat) (x i : Operand) : pureD X m st (.index t x i) = match ev X st x, ev X st i with
    | .str s, .int _ n => bif isStr X.P t then (match atI s n with
      | some b => some (.int .u8 b.toNat)
      | none => none) else none
    | .agg cs, .int _ n => match arrElem X.P t with
      | some (len, e) => match szOf X.P e with
        | some k => bif decide (0 ≤ n) && decide (n < len) then takeD X.P e cs (n.toNat * k) else none
        | none => none
      | none => none
    | _, _ => none := rfl
@[go_sem] theorem atI_cast {β : Type} (l : List β) (n : Nat) : atI l (n : Int) = l[n]? := rfl
@[go_sem] theorem pure_extract (x : Operand) (i : Nat) : pureD X m st (.extract x i) = match ev X st x with
    | .tuple ds => ds[i]?
    | _ => none := rfl
@[go_sem] theorem isZero_int (k : IntKind) (n : Int) : isZero (.int k n) = decide (n = 0) := rfl
@[go_sem] theorem optI_none (z : Option Int) : optI X st z none = z := rfl
@[go_sem] theorem optI_some (z : Option Int) (x : Operand) : optI X st z (some x) = match ev X st x with | .int _ n => some n | _ => none := rfl
@[go_sem] theorem pure_len (x : Operand) (t : Nat) : pureD X m st (.call { callee := .builtin .len, args := #[x], argTypes := #[t] }) = match lenT X.P t (ev X st x) with | some n => some (.int .i64 n) | none => none := rfl
@[go_sem] theorem len_slice (t : Option Nat) (k : Nat) (es : List D) : lenD (.slice t k es) = some es.length := rfl
@[go_sem] theorem len_nil : lenD .nil = some 0 := rfl
@[go_sem] theorem len_str (s : List UInt8) : lenD (.str s) = some s.length := rfl
@[go_sem] theorem pure_min (x : Operand) (r : List Operand) (ts : Array Nat) : pureD X m st (.call { callee := .builtin .min, args := (x :: r).toArray, argTypes := ts }) = minL true (ev X st x) (r.map (ev X st)) := rfl
@[go_sem] theorem pure_max (x : Operand) (r : List Operand) (ts : Array Nat) : pureD X m st (.call { callee := .builtin .max, args := (x :: r).toArray, argTypes := ts }) = minL false (ev X st x) (r.map (ev X st)) := rfl
@[go_sem] theorem minL_nil (lo : Bool) (k : IntKind) (a : Int) : minL lo (.int k a) [] = some (.int k a) := rfl
@[go_sem] theorem minL_cons (lo : Bool) (x y : D) (r : List D) : minL lo x (y :: r) = match min2 lo x y with | some z => minL lo z r | none => none := rfl
@[go_sem] theorem min2_min (a b : Int) : min2 true (.int .i64 a) (.int .i64 b) = some (.int .i64 (if b < a then b else a)) := rfl
@[go_sem] theorem min2_max (a b : Int) : min2 false (.int .i64 a) (.int .i64 b) = some (.int .i64 (if b > a then b else a)) := rfl
@[go_sem] theorem binI_quo (k : IntKind) (a b : Int) : binI .quo k a b = bif b == 0 then none else some (.int k (k.wrap (a.tdiv b))) := rfl
@[go_sem] theorem binI_rem (k : IntKind) (a b : Int) : binI .rem k a b = bif b == 0 then none else some (.int k (a.tmod b)) := rfl
@[go_sem] theorem app_empty (k : Nat) (m : Mem) (s : D) : appendD k m s [] = some (s, m) := rfl
@[go_sem] theorem app_nil (k : Nat) (b : List (List D)) (t : List Nat) (x : D) (xs : List D) : appendD k ⟨b, t⟩ .nil (x :: xs) = some (.slice (some (t.length + 1)) k (x :: xs), ⟨b, t ++ [(x :: xs).length]⟩) := rfl
@[go_sem] theorem app_full (k k' : Nat) (b : List (List D)) (t : List Nat) (es : List D) (x : D) (xs : List D) : appendD k ⟨b, t⟩ (.slice (some 0) k' es) (x :: xs) = bif decide (k = k') then some (.slice (some (t.length + 1)) k (es ++ x :: xs), ⟨b, t ++ [(es ++ x :: xs).length]⟩) else none := rfl
@[go_sem] theorem app_tok (k k' id : Nat) (b : List (List D)) (t : List Nat) (es : List D) (x : D) (xs : List D) : appendD k ⟨b, t⟩ (.slice (some (id + 1)) k' es) (x :: xs) = match t[id]? with
      | some n => bif decide (k = k') && decide (n = es.length) then some (.slice (some (id + 1)) k (es ++ x :: xs), ⟨b, t.set id (es ++ x :: xs).length⟩) else none
      | none => none := rfl
@[go_sem] theorem takeD_eq (P : Program) (t : Nat) (cs : List D) (off : Nat) : takeD P t cs off = match isAgg P t with
  | some true => (match szOf P t with
    | some n => bif decide (off + n ≤ cs.length) then some (.agg ((cs.drop off).take n)) else none
    | none => none)
  | some false => cs[off]?
  | none => none := rfl
-- steps
@[go_sem] theorem wpOps_nil (all : List Oper) (K : St → Prop) (st : St) : wpOps X F C all [] K st = K st := rfl
@[go_sem] theorem wpOps_cons (all : List Oper) (o : Oper) (r : List Oper) (K : St → Prop) (st : St) : wpOps X F C all (o :: r) K st = opI X F C all o (wpOps X F C all r K) st := rfl
@[go_sem] theorem opI_plain (all : List Oper) (dst : Option Nat) (op : Op) (ty : Nat) (pos : String) (af : Array Edge) (K : St → Prop) (st : St) :
    opI X F C all ⟨dst, op, ty, pos, af, none⟩ K st = stepI X F C ⟨dst, op, ty, pos, af, none⟩ K st := rfl
theorem opI_guard (all : List Oper) (dst : Option Nat) (op : Op) (ty : Nat) (pos : String) (af : Array Edge) (j : Nat) (want : Bool) (K : St → Prop) (st : St) :
    opI X F C all ⟨dst, op, ty, pos, af, some (j, want)⟩ K st = match guardI all st j with
    | some (some b) => (match eqB want b with
      | true => stepI X F C ⟨dst, op, ty, pos, af, none⟩ K st
      | false => K (st.put dst (.tuple [])))
    | some none => K (st.put dst (.tuple []))
    | none => False := rfl
/-- Whether a guarded operation is done; whether it is left out. -/
def goB (want : Bool) : Option (Option Bool) → Bool
  | some (some b) => eqB want b
  | _ => false
def skB (want : Bool) : Option (Option Bool) → Bool
  | some (some b) => !eqB want b
  | some none => true
  | none => false
@[go_sem] theorem goB_some (w b : Bool) : goB w (some (some b)) = eqB w b := rfl
@[go_sem] theorem goB_none (w : Bool) : goB w (some none) = false := rfl
@[go_sem] theorem skB_some (w b : Bool) : skB w (some (some b)) = !eqB w b := rfl
@[go_sem] theorem skB_none (w : Bool) : skB w (some none) = true := rfl
@[go_sem] theorem opI_go (all : List Oper) (dst : Option Nat) (op : Op) (ty : Nat) (pos : String) (af : Array Edge) (j : Nat) (want : Bool) (K : St → Prop) (st : St) (h : goB want (guardI all st j) = true) :
    opI X F C all ⟨dst, op, ty, pos, af, some (j, want)⟩ K st = stepI X F C ⟨dst, op, ty, pos, af, none⟩ K st := by
  rw [opI_guard]; revert h
  rcases guardI all st j with _ | _ | b
  · intro h; cases h
  · intro h; cases h
  · intro h; have h : eqB want b = true := h; simp only [h]
@[go_sem] theorem opI_sk (all : List Oper) (dst : Option Nat) (op : Op) (ty : Nat) (pos : String) (af : Array Edge) (j : Nat) (want : Bool) (K : St → Prop) (st : St) (h : skB want (guardI all st j) = true) :
    opI X F C all ⟨dst, op, ty, pos, af, some (j, want)⟩ K st = K (st.put dst (.tuple [])) := by
  rw [opI_guard]; revert h
  rcases guardI all st j with _ | _ | b
  · intro h; cases h
  · intro _; rfl
  · intro h; have h : (!eqB want b) = true := h; simp only [Bool.not_eq_true'] at h; simp only [h]
@[go_sem] theorem step_move (dst : Option Nat) (x : Operand) (ty : Nat) (pos : String) (af : Array Edge) (K : St → Prop) (st : St) : stepI X F C ⟨dst, .move x, ty, pos, af, none⟩ K st = match pureD X st.m st (.move x) with | some d => K (st.put dst d) | none => False := rfl
@[go_sem] theorem step_assign (dst : Option Nat) (x : Operand) (ty : Nat) (pos : String) (af : Array Edge) (K : St → Prop) (st : St) : stepI X F C ⟨dst, .assign x, ty, pos, af, none⟩ K st = match pureD X st.m st (.assign x) with | some d => K (st.put dst d) | none => False := rfl
@[go_sem] theorem step_pick (dst : Option Nat) (c a b : Operand) (ty : Nat) (pos : String) (af : Array Edge) (K : St → Prop) (st : St) : stepI X F C ⟨dst, .pick c a b, ty, pos, af, none⟩ K st = match pureD X st.m st (.pick c a b) with | some d => K (st.put dst d) | none => False := rfl
@[go_sem] theorem step_load (dst : Option Nat) (t : Nat) (p : Operand) (ty : Nat) (pos : String) (af : Array Edge) (K : St → Prop) (st : St) : stepI X F C ⟨dst, .load t p, ty, pos, af, none⟩ K st = match pureD X st.m st (.load t p) with | some d => K (st.put dst d) | none => False := rfl
@[go_sem] theorem step_binOp (dst : Option Nat) (op : BinOp) (t u : Nat) (x y : Operand) (ty : Nat) (pos : String) (af : Array Edge) (K : St → Prop) (st : St) : stepI X F C ⟨dst, .binOp op t x y u, ty, pos, af, none⟩ K st = match pureD X st.m st (.binOp op t x y u) with | some d => K (st.put dst d) | none => False := rfl
@[go_sem] theorem step_unOp (dst : Option Nat) (op : UnOp) (t : Nat) (x : Operand) (ty : Nat) (pos : String) (af : Array Edge) (K : St → Prop) (st : St) : stepI X F C ⟨dst, .unOp op t x, ty, pos, af, none⟩ K st = match pureD X st.m st (.unOp op t x) with | some d => K (st.put dst d) | none => False := rfl
@[go_sem] theorem step_field (dst : Option Nat) (t : Nat) (x : Operand) (i : Nat) (ty : Nat) (pos : String) (af : Array Edge) (K : St → Prop) (st : St) : stepI X F C ⟨dst, .field t x i, ty, pos, af, none⟩ K st = match pureD X st.m st (.field t x i) with | some d => K (st.put dst d) | none => False := rfl
@[go_sem] theorem step_build (dst : Option Nat) (t : Nat) (ps : Array (Nat × Operand)) (ty : Nat) (pos : String) (af : Array Edge) (K : St → Prop) (st : St) : stepI X F C ⟨dst, .build t ps, ty, pos, af, none⟩ K st = match pureD X st.m st (.build t ps) with | some d => K (st.put dst d) | none => False := rfl
@[go_sem] theorem step_indexAddr (dst : Option Nat) (t : Nat) (x i : Operand) (ty : Nat) (pos : String) (af : Array Edge) (K : St → Prop) (st : St) : stepI X F C ⟨dst, .indexAddr t x i, ty, pos, af, none⟩ K st = match pureD X st.m st (.indexAddr t x i) with | some d => K (st.put dst d) | none => False := rfl
@[go_sem] theorem step_index (dst : Option Nat) (t : Nat) (x i : Operand) (ty : Nat) (pos : String) (af : Array Edge) (K : St → Prop) (st : St) : stepI X F C ⟨dst, .index t x i, ty, pos, af, none⟩ K st = match pureD X st.m st (.index t x i) with | some d => K (st.put dst d) | none => False := rfl
@[go_sem] theorem step_extract (dst : Option Nat) (x : Operand) (i : Nat) (ty : Nat) (pos : String) (af : Array Edge) (K : St → Prop) (st : St) : stepI X F C ⟨dst, .extract x i, ty, pos, af, none⟩ K st = match pureD X st.m st (.extract x i) with | some d => K (st.put dst d) | none => False := rfl
@[go_sem] theorem step_slice (dst : Option Nat) (t : Nat) (x : Operand) (a b c : Option Operand) (ty : Nat) (pos : String) (af : Array Edge) (K : St → Prop) (st : St) : stepI X F C ⟨dst, .slice t x a b c, ty, pos, af, none⟩ K st = match pureD X st.m st (.slice t x a b c) with | some d => K (st.put dst d) | none => False := rfl
@[go_sem] theorem step_len (dst : Option Nat) (as : Array Operand) (ts : Array Nat) (ty : Nat) (pos : String) (af : Array Edge) (K : St → Prop) (st : St) : stepI X F C ⟨dst, .call ⟨.builtin .len, as, ts⟩, ty, pos, af, none⟩ K st = match pureD X st.m st (.call ⟨.builtin .len, as, ts⟩) with | some d => K (st.put dst d) | none => False := rfl
@[go_sem] theorem step_min (dst : Option Nat) (as : Array Operand) (ts : Array Nat) (ty : Nat) (pos : String) (af : Array Edge) (K : St → Prop) (st : St) : stepI X F C ⟨dst, .call ⟨.builtin .min, as, ts⟩, ty, pos, af, none⟩ K st = match pureD X st.m st (.call ⟨.builtin .min, as, ts⟩) with | some d => K (st.put dst d) | none => False := rfl
@[go_sem] theorem step_max (dst : Option Nat) (as : Array Operand) (ts : Array Nat) (ty : Nat) (pos : String) (af : Array Edge) (K : St → Prop) (st : St) : stepI X F C ⟨dst, .call ⟨.builtin .max, as, ts⟩, ty, pos, af, none⟩ K st = match pureD X st.m st (.call ⟨.builtin .max, as, ts⟩) with | some d => K (st.put dst d) | none => False := rfl
@[go_sem] theorem step_buildSlice (dst : Option Nat) (t n : Nat) (ps : Array (Nat × Operand)) (ty : Nat) (pos : String) (af : Array Edge) (K : St → Prop) (st : St) : stepI X F C ⟨dst, .buildSlice t n ps, ty, pos, af, none⟩ K st = match rowD X st (.buildSlice t n ps) with | some d => K (st.put dst d) | none => False := rfl
@[go_sem] theorem step_alloc (x t : Nat) (ty : Nat) (pos : String) (af : Array Edge) (K : St → Prop) (st : St) : stepI X F C ⟨some x, .alloc t, ty, pos, af, none⟩ K st =
    match zeroD X.P t with | some z => (match memB F.esc x with
    | true => K ((st.put (some x) (.ptr st.m.boxes.length 0)).setM { st.m with boxes := st.m.boxes ++ [z.cells] })
    | false => K (st.newBox x z.cells)) | none => False := rfl
@[go_sem] theorem step_box (x t : Nat) (v : Operand) (ty : Nat) (pos : String) (af : Array Edge) (K : St → Prop) (st : St) : stepI X F C ⟨some x, .box t v, ty, pos, af, none⟩ K st =
    match szOf X.P t with
    | some n => (match (ev X st v).okC && decide ((ev X st v).cells.length = n) with
      | true => (match memB F.esc x with
        | true => K ((st.put (some x) (.ptr st.m.boxes.length 0)).setM { st.m with boxes := st.m.boxes ++ [(ev X st v).cells] })
        | false => K (st.newBox x (ev X st v).cells))
      | false => False)
    | none => False := rfl
@[go_sem] theorem step_store (t x : Nat) (v : Operand) (ty : Nat) (pos : String) (af : Array Edge) (K : St → Prop) (sl lp bx) (m : Mem) : stepI X F C ⟨none, .store t (.tmp x) v, ty, pos, af, none⟩ K ⟨sl, lp, bx, m⟩ =
    match lp x with
    | some (key, off) => (match bx key, szOf X.P t with
      | some cs, some n => (match (ev X ⟨sl, lp, bx, m⟩ v).okC && decide ((ev X ⟨sl, lp, bx, m⟩ v).cells.length = n) && decide (off + n ≤ cs.length) with
        | true => K ⟨sl, lp, upd bx key (some (setRow cs off (ev X ⟨sl, lp, bx, m⟩ v).cells)), m⟩
        | false => False)
      | _, _ => False)
    | none => (match sl x with
      | .ptr id off => (match m.boxes[id]?, szOf X.P t with
        | some cs, some n => (match (ev X ⟨sl, lp, bx, m⟩ v).okC && decide ((ev X ⟨sl, lp, bx, m⟩ v).cells.length = n) && decide (off + n ≤ cs.length) with
          | true => K ⟨sl, lp, bx, { m with boxes := m.boxes.set id (setRow cs off (ev X ⟨sl, lp, bx, m⟩ v).cells) }⟩
          | false => False)
        | _, _ => False)
      | _ => False) := rfl
attribute [go_sem] ite_true ite_false if_true if_false List.getElem?_cons_zero List.getElem?_cons_succ List.drop_succ_cons List.drop_zero List.take_succ_cons List.take_zero List.length_cons List.length_nil decide_true decide_false cond_true cond_false Bool.and_true Bool.true_and Bool.not_true Bool.not_false List.set_cons_zero List.set_cons_succ List.nil_append List.cons_append List.append_nil List.map_cons List.map_nil Option.bind_some Option.map_some
@[go_sem] theorem eqB_true (b : Bool) : eqB true b = b := rfl
@[go_sem] theorem eqB_false (b : Bool) : eqB false b = !b := by cases b <;> rfl
@[go_sem] theorem step_nilCheck (dst : Option Nat) (p : Operand) (ty : Nat) (pos : String) (af : Array Edge) (K : St → Prop) (st : St) : stepI X F C ⟨dst, .nilCheck p, ty, pos, af, none⟩ K st =
    match regOf st p with
    | some (key, off) => (match dst with
      | some x => K (st.putL x key off)
      | none => K st)
    | none => (match pureD X st.m st (.nilCheck p) with | some d => K (st.put dst d) | none => False) := rfl
@[go_sem] theorem step_fieldAddr (x t i : Nat) (p : Operand) (ty : Nat) (pos : String) (af : Array Edge) (K : St → Prop) (st : St) : stepI X F C ⟨some x, .fieldAddr t p i, ty, pos, af, none⟩ K st =
    match regOf st p with
    | some (key, off) => (match fieldOff X.P t i with
      | some n => K (st.putL x key (off + n))
      | none => False)
    | none => (match pureD X st.m st (.fieldAddr t p i) with | some d => K (st.put (some x) d) | none => False) := by
  show (match regOf st p with
    | some (key, off) => match fieldOff X.P t i, some x with
      | some n, some x => K (st.putL x key (off + n))
      | _, _ => False
    | none => pureK X _ K st) = _
  cases regOf st p with
  | none => rfl
  | some a => cases fieldOff X.P t i <;> rfl
@[go_sem] theorem regOf_tmp (sl lp bx) (m : Mem) (x : Nat) : regOf ⟨sl, lp, bx, m⟩ (.tmp x) = lp x := rfl
@[go_sem] theorem regOf_global (st : St) (g : Nat) : regOf st (.global g) = none := rfl
@[go_sem] theorem guardI_eq (all : List Oper) (sl lp bx) (m : Mem) (j : Nat) : guardI all ⟨sl, lp, bx, m⟩ j = match dstFrom all 0 j with
  | some x => guardV (sl x)
  | none => none := rfl
@[go_sem] theorem guardV_bool (b : Bool) : guardV (.bool b) = some (some b) := rfl
@[go_sem] theorem guardV_skip : guardV (.tuple []) = some none := rfl
@[go_sem] theorem dstFrom_cons (o : Oper) (r : List Oper) (i j : Nat) : dstFrom (o :: r) i j = if i = j then o.dst else dstFrom r (i + 1) j := rfl
@[go_sem] theorem resOne_tmp (sl lp bx) (m : Mem) (t : Nat) : resOne X ⟨sl, lp, bx, m⟩ (.tmp t) = some (sl t) := rfl
@[go_sem] theorem resOne_cell (sl lp bx) (m : Mem) (p t : Nat) : resOne X ⟨sl, lp, bx, m⟩ (.cell p t) = match place X m ⟨sl, lp, bx, m⟩ (.tmp p) with | some (cs, off) => takeD X.P t cs off | none => none := rfl
@[go_sem] theorem resL_nil (st : St) : resL X st [] = some [] := rfl
@[go_sem] theorem resL_cons (st : St) (r : ResultVar) (rs : List ResultVar) : resL X st (r :: rs) = match resOne X st r, resL X st rs with | some d, some ds => some (d :: ds) | _, _ => none := rfl
@[go_sem] theorem resD_eq (st : St) (rs : List ResultVar) : resD X rs st = match resL X st rs with | some [d] => some d | some ds => some (.tuple ds) | none => none := rfl
@[go_sem] theorem endP_ret (rs : List ResultVar) (Q : D → Mem → Prop) (st : St) : endP X rs Q .ret st = match resD X rs st with | some r => Q r st.m | none => False := rfl
@[go_sem] theorem endP_normal (rs : List ResultVar) (Q : D → Mem → Prop) (st : St) : endP X rs Q .normal st = match resD X rs st with | some r => Q r st.m | none => False := rfl
@[go_sem] theorem numbered_nil (i : Nat) : numbered [] i = [] := rfl
@[go_sem] theorem numbered_cons (d : D) (r : List D) (i : Nat) : numbered (d :: r) i = (i, d) :: numbered r (i + 1) := rfl
@[go_sem] theorem entry_eq (ds : List D) (m : Mem) : entry ds m = ⟨slL (numbered ds 0), opL [], opL [], m⟩ := rfl
-- regions whose order is open
@[go_sem] theorem wpOpsN_nil (m0 : Mem) (all : List Oper) (K : St → Prop) (st : St) : wpOpsN X F C m0 all [] K st = K st := rfl
@[go_sem] theorem wpOpsN_cons (m0 : Mem) (all : List Oper) (o : Oper) (r : List Oper) (K : St → Prop) (st : St) : wpOpsN X F C m0 all (o :: r) K st = opN X F C m0 all o (wpOpsN X F C m0 all r K) st := rfl
@[go_sem] theorem opN_plain (m0 : Mem) (all : List Oper) (dst : Option Nat) (op : Op) (ty : Nat) (pos : String) (af : Array Edge) (K : St → Prop) (st : St) :
    opN X F C m0 all ⟨dst, op, ty, pos, af, none⟩ K st = stepN X F C m0 ⟨dst, op, ty, pos, af, none⟩ K st := rfl
theorem opN_guard (m0 : Mem) (all : List Oper) (dst : Option Nat) (op : Op) (ty : Nat) (pos : String) (af : Array Edge) (j : Nat) (want : Bool) (K : St → Prop) (st : St) :
    opN X F C m0 all ⟨dst, op, ty, pos, af, some (j, want)⟩ K st = match guardI all st j with
    | some (some b) => (match eqB want b with
      | true => stepN X F C m0 ⟨dst, op, ty, pos, af, none⟩ K st
      | false => K (st.put dst (.tuple [])))
    | some none => K (st.put dst (.tuple []))
    | none => False := rfl
@[go_sem] theorem opN_go (m0 : Mem) (all : List Oper) (dst : Option Nat) (op : Op) (ty : Nat) (pos : String) (af : Array Edge) (j : Nat) (want : Bool) (K : St → Prop) (st : St) (h : goB want (guardI all st j) = true) :
    opN X F C m0 all ⟨dst, op, ty, pos, af, some (j, want)⟩ K st = stepN X F C m0 ⟨dst, op, ty, pos, af, none⟩ K st := by
  rw [opN_guard]; revert h
  rcases guardI all st j with _ | _ | b
  · intro h; cases h
  · intro h; cases h
  · intro h; have h : eqB want b = true := h; simp only [h]
@[go_sem] theorem opN_sk (m0 : Mem) (all : List Oper) (dst : Option Nat) (op : Op) (ty : Nat) (pos : String) (af : Array Edge) (j : Nat) (want : Bool) (K : St → Prop) (st : St) (h : skB want (guardI all st j) = true) :
    opN X F C m0 all ⟨dst, op, ty, pos, af, some (j, want)⟩ K st = K (st.put dst (.tuple [])) := by
  rw [opN_guard]; revert h
  rcases guardI all st j with _ | _ | b
  · intro h; cases h
  · intro _; rfl
  · intro h; have h : (!eqB want b) = true := h; simp only [Bool.not_eq_true'] at h; simp only [h]
@[go_sem] theorem stepN_move (m0 : Mem) (dst : Option Nat) (x : Operand) (ty : Nat) (pos : String) (af : Array Edge) (K : St → Prop) (st : St) : stepN X F C m0 ⟨dst, .move x, ty, pos, af, none⟩ K st = match pureD X m0 st (.move x) with | some d => K (st.put dst d) | none => False := rfl
@[go_sem] theorem stepN_assign (m0 : Mem) (dst : Option Nat) (x : Operand) (ty : Nat) (pos : String) (af : Array Edge) (K : St → Prop) (st : St) : stepN X F C m0 ⟨dst, .assign x, ty, pos, af, none⟩ K st = match pureD X m0 st (.assign x) with | some d => K (st.put dst d) | none => False := rfl
@[go_sem] theorem stepN_pick (m0 : Mem) (dst : Option Nat) (c a b : Operand) (ty : Nat) (pos : String) (af : Array Edge) (K : St → Prop) (st : St) : stepN X F C m0 ⟨dst, .pick c a b, ty, pos, af, none⟩ K st = match pureD X m0 st (.pick c a b) with | some d => K (st.put dst d) | none => False := rfl
@[go_sem] theorem stepN_load (m0 : Mem) (dst : Option Nat) (t : Nat) (p : Operand) (ty : Nat) (pos : String) (af : Array Edge) (K : St → Prop) (st : St) : stepN X F C m0 ⟨dst, .load t p, ty, pos, af, none⟩ K st = match locOk F st p with
    | true => (match pureD X m0 st (.load t p) with | some d => K (st.put dst d) | none => False)
    | false => False := rfl
@[go_sem] theorem stepN_binOp (m0 : Mem) (dst : Option Nat) (op : BinOp) (t u : Nat) (x y : Operand) (ty : Nat) (pos : String) (af : Array Edge) (K : St → Prop) (st : St) : stepN X F C m0 ⟨dst, .binOp op t x y u, ty, pos, af, none⟩ K st = match pureD X m0 st (.binOp op t x y u) with | some d => K (st.put dst d) | none => False := rfl
@[go_sem] theorem stepN_unOp (m0 : Mem) (dst : Option Nat) (op : UnOp) (t : Nat) (x : Operand) (ty : Nat) (pos : String) (af : Array Edge) (K : St → Prop) (st : St) : stepN X F C m0 ⟨dst, .unOp op t x, ty, pos, af, none⟩ K st = match pureD X m0 st (.unOp op t x) with | some d => K (st.put dst d) | none => False := rfl
@[go_sem] theorem stepN_makeFunc (m0 : Mem) (dst : Option Nat) (f : Fn) (a b : Array Operand) (ty : Nat) (pos : String) (af : Array Edge) (K : St → Prop) (st : St) : stepN X F C m0 ⟨dst, .makeFunc f a b, ty, pos, af, none⟩ K st = match pureD X m0 st (.makeFunc f a b) with | some d => K (st.put dst d) | none => False := rfl
@[go_sem] theorem stepN_field (m0 : Mem) (dst : Option Nat) (t : Nat) (x : Operand) (i : Nat) (ty : Nat) (pos : String) (af : Array Edge) (K : St → Prop) (st : St) : stepN X F C m0 ⟨dst, .field t x i, ty, pos, af, none⟩ K st = match pureD X m0 st (.field t x i) with | some d => K (st.put dst d) | none => False := rfl
@[go_sem] theorem stepN_build (m0 : Mem) (dst : Option Nat) (t : Nat) (ps : Array (Nat × Operand)) (ty : Nat) (pos : String) (af : Array Edge) (K : St → Prop) (st : St) : stepN X F C m0 ⟨dst, .build t ps, ty, pos, af, none⟩ K st = match pureD X m0 st (.build t ps) with | some d => K (st.put dst d) | none => False := rfl
@[go_sem] theorem stepN_indexAddr (m0 : Mem) (dst : Option Nat) (t : Nat) (x i : Operand) (ty : Nat) (pos : String) (af : Array Edge) (K : St → Prop) (st : St) : stepN X F C m0 ⟨dst, .indexAddr t x i, ty, pos, af, none⟩ K st = match pureD X m0 st (.indexAddr t x i) with | some d => K (st.put dst d) | none => False := rfl
@[go_sem] theorem stepN_index (m0 : Mem) (dst : Option Nat) (t : Nat) (x i : Operand) (ty : Nat) (pos : String) (af : Array Edge) (K : St → Prop) (st : St) : stepN X F C m0 ⟨dst, .index t x i, ty, pos, af, none⟩ K st = match pureD X m0 st (.index t x i) with | some d => K (st.put dst d) | none => False := rfl
@[go_sem] theorem stepN_extract (m0 : Mem) (dst : Option Nat) (x : Operand) (i : Nat) (ty : Nat) (pos : String) (af : Array Edge) (K : St → Prop) (st : St) : stepN X F C m0 ⟨dst, .extract x i, ty, pos, af, none⟩ K st = match pureD X m0 st (.extract x i) with | some d => K (st.put dst d) | none => False := rfl
@[go_sem] theorem stepN_slice (m0 : Mem) (dst : Option Nat) (t : Nat) (x : Operand) (a b c : Option Operand) (ty : Nat) (pos : String) (af : Array Edge) (K : St → Prop) (st : St) : stepN X F C m0 ⟨dst, .slice t x a b c, ty, pos, af, none⟩ K st = match pureD X m0 st (.slice t x a b c) with | some d => K (st.put dst d) | none => False := rfl
@[go_sem] theorem stepN_len (m0 : Mem) (dst : Option Nat) (as : Array Operand) (ts : Array Nat) (ty : Nat) (pos : String) (af : Array Edge) (K : St → Prop) (st : St) : stepN X F C m0 ⟨dst, .call ⟨.builtin .len, as, ts⟩, ty, pos, af, none⟩ K st = match pureD X m0 st (.call ⟨.builtin .len, as, ts⟩) with | some d => K (st.put dst d) | none => False := rfl
@[go_sem] theorem stepN_min (m0 : Mem) (dst : Option Nat) (as : Array Operand) (ts : Array Nat) (ty : Nat) (pos : String) (af : Array Edge) (K : St → Prop) (st : St) : stepN X F C m0 ⟨dst, .call ⟨.builtin .min, as, ts⟩, ty, pos, af, none⟩ K st = match pureD X m0 st (.call ⟨.builtin .min, as, ts⟩) with | some d => K (st.put dst d) | none => False := rfl
@[go_sem] theorem stepN_max (m0 : Mem) (dst : Option Nat) (as : Array Operand) (ts : Array Nat) (ty : Nat) (pos : String) (af : Array Edge) (K : St → Prop) (st : St) : stepN X F C m0 ⟨dst, .call ⟨.builtin .max, as, ts⟩, ty, pos, af, none⟩ K st = match pureD X m0 st (.call ⟨.builtin .max, as, ts⟩) with | some d => K (st.put dst d) | none => False := rfl
@[go_sem] theorem stepN_buildSlice (m0 : Mem) (dst : Option Nat) (t n : Nat) (ps : Array (Nat × Operand)) (ty : Nat) (pos : String) (af : Array Edge) (K : St → Prop) (st : St) : stepN X F C m0 ⟨dst, .buildSlice t n ps, ty, pos, af, none⟩ K st = match rowD X st (.buildSlice t n ps) with | some d => K (st.put dst d) | none => False := rfl
@[go_sem] theorem isFr_tmp (F : Fi) (x : Nat) : isFr F (.tmp x) = memB F.mks x := rfl
@[go_sem] theorem frOk_eq (F : Fi) (m0 : Mem) (p : Operand) (id : Nat) : frOk F m0 p id = bif isFr F p then !inM m0 id else inM m0 id := rfl
@[go_sem] theorem inM_eq (m : Mem) (id : Nat) : inM m id = match m.boxes[id]? with | some _ => true | none => false := rfl
@[go_sem] theorem stepN_store (m0 : Mem) (t : Nat) (p v : Operand) (ty : Nat) (pos : String) (af : Array Edge) (K : St → Prop) (sl lp bx) (m : Mem) : stepN X F C m0 ⟨none, .store t p v, ty, pos, af, none⟩ K ⟨sl, lp, bx, m⟩ =
    match locOk F ⟨sl, lp, bx, m⟩ p with
    | true => (match regOf ⟨sl, lp, bx, m⟩ p with
      | some (key, off) => (match bx key, szOf X.P t with
        | some cs, some n => (match !isFr F p && ((ev X ⟨sl, lp, bx, m⟩ v).okC && decide ((ev X ⟨sl, lp, bx, m⟩ v).cells.length = n) && decide (off + n ≤ cs.length)) with
          | true => K ⟨sl, lp, upd bx key (some (setRow cs off (ev X ⟨sl, lp, bx, m⟩ v).cells)), m⟩
          | false => False)
        | _, _ => False)
      | none => (match ev X ⟨sl, lp, bx, m⟩ p with
        | .ptr id off => (match m.boxes[id]?, szOf X.P t with
          | some cs, some n => (match frOk F m0 p id && ((ev X ⟨sl, lp, bx, m⟩ v).okC && decide ((ev X ⟨sl, lp, bx, m⟩ v).cells.length = n) && decide (off + n ≤ cs.length)) with
            | true => K ⟨sl, lp, bx, { m with boxes := m.boxes.set id (setRow cs off (ev X ⟨sl, lp, bx, m⟩ v).cells) }⟩
            | false => False)
          | _, _ => False)
        | _ => False))
    | false => False := rfl
@[go_sem] theorem stepN_nilCheck (m0 : Mem) (dst : Option Nat) (p : Operand) (ty : Nat) (pos : String) (af : Array Edge) (K : St → Prop) (st : St) : stepN X F C m0 ⟨dst, .nilCheck p, ty, pos, af, none⟩ K st =
    match regOf st p with
    | some (key, off) => (match dst with
      | some x => K (st.putL x key off)
      | none => K st)
    | none => (match pureD X m0 st (.nilCheck p) with | some d => K (st.put dst d) | none => False) := rfl
@[go_sem] theorem stepN_fieldAddr (m0 : Mem) (x t i : Nat) (p : Operand) (ty : Nat) (pos : String) (af : Array Edge) (K : St → Prop) (st : St) : stepN X F C m0 ⟨some x, .fieldAddr t p i, ty, pos, af, none⟩ K st =
    match regOf st p with
    | some (key, off) => (match fieldOff X.P t i with
      | some n => K (st.putL x key (off + n))
      | none => False)
    | none => (match pureD X m0 st (.fieldAddr t p i) with | some d => K (st.put (some x) d) | none => False) := by
  show (match regOf st p with
    | some (key, off) => match fieldOff X.P t i, some x with
      | some n, some x => K (st.putL x key (off + n))
      | _, _ => False
    | none => pureN X m0 _ K st) = _
  cases regOf st p with
  | none => rfl
  | some a => cases fieldOff X.P t i <;> rfl
-- slices, by functions of their own
def idxA (P : Program) (t : Nat) (a i : D) : Option D := match a, i with
    | .slice _ k es, .int _ n => match sliceSz P t with
      | some k' => bif decide (k' = k) then (match atI es n with
        | some d => some (.ref d.cells 0)
        | none => none) else none
      | none => none
    | .rsl id off len k, .int _ n => match sliceSz P t with
      | some k' => bif decide (k' = k) && decide (0 ≤ n) && decide (n < len) then some (.ptr id (off + n.toNat * k)) else none
      | none => none
    | .ref cs off, .int _ n => match arrElem P t with
      | some (len, e) => match szOf P e with
        | some k => bif decide (0 ≤ n) && decide (n < len) then some (.ref cs (off + n.toNat * k)) else none
        | none => none
      | none => none
    | _, _ => none
@[go_sem] theorem pure_indexAddr (t : Nat) (x i : Operand) : pureD X m st (.indexAddr t x i) = idxA X.P t (ev X st x) (ev X st i) := by
  simp only [pureD]; unfold idxA; generalize ev X st x = a; generalize ev X st i = b
  cases a <;> first | rfl | (cases b <;> rfl)
@[go_sem] theorem idxA_slice (P : Program) (t : Nat) (g : Option Nat) (k : Nat) (es : List D) (kk : IntKind) (n : Int) : idxA P t (.slice g k es) (.int kk n) = match sliceSz P t with
      | some k' => bif decide (k' = k) then (match atI es n with
        | some d => some (.ref d.cells 0)
        | none => none) else none
      | none => none := rfl
@[go_sem] theorem idxA_rsl (P : Program) (t : Nat) (id off len k : Nat) (kk : IntKind) (n : Int) : idxA P t (.rsl id off len k) (.int kk n) = match sliceSz P t with
      | some k' => bif decide (k' = k) && decide (0 ≤ n) && decide (n < len) then some (.ptr id (off + n.toNat * k)) else none
      | none => none := rfl
@[go_sem] theorem idxA_ref (P : Program) (t : Nat) (cs : List D) (off : Nat) (kk : IntKind) (n : Int) : idxA P t (.ref cs off) (.int kk n) = match arrElem P t with
      | some (len, e) => match szOf P e with
        | some k => bif decide (0 ≤ n) && decide (n < len) then some (.ref cs (off + n.toNat * k)) else none
        | none => none
      | none => none := rfl
/-- x[l:h] -/
def slcI (P : Program) (t : Nat) (a : D) (l : Option Int) (h : Int → Option Int) : Option D := match a with
    | .str s => match isStr P t, l, h s.length with
      | true, some l, some h => sliceStr s l h
      | _, _, _ => none
    | .slice _ k es => match sliceSz P t, l, h es.length with
      | some k', some l, some h => bif decide (k' = k) then sliceSl k es l h else none
      | _, _, _ => none
    | .rsl id off len k => match sliceSz P t, l, h len with
      | some k', some l, some h => bif decide (k' = k) then sliceR id off len k l h else none
      | _, _, _ => none
    | .nil => match sliceSz P t, l, h 0 with
      | some _, some l, some h => bif decide (l = 0) && decide (h = 0) then some .nil else none
      | _, _, _ => none
    | _ => none
@[go_sem] theorem pure_slice (t : Nat) (x : Operand) (low high : Option Operand) : pureD X m st (.slice t x low high none) = slcI X.P t (ev X st x) (optI X st (some 0) low) (fun z => optI X st (some z) high) := by
  simp only [pureD]; unfold slcI; generalize ev X st x = a
  cases a <;> rfl
@[go_sem] theorem slcI_str (P : Program) (t : Nat) (s : List UInt8) (l : Option Int) (h : Int → Option Int) : slcI P t (.str s) l h = match isStr P t, l, h s.length with
      | true, some l, some h => sliceStr s l h
      | _, _, _ => none := rfl
@[go_sem] theorem slcI_slice (P : Program) (t : Nat) (g : Option Nat) (k : Nat) (es : List D) (l : Option Int) (h : Int → Option Int) : slcI P t (.slice g k es) l h = match sliceSz P t, l, h es.length with
      | some k', some l, some h => bif decide (k' = k) then sliceSl k es l h else none
      | _, _, _ => none := rfl
@[go_sem] theorem pure_slice3 (t : Nat) (x h k : Operand) : pureD X m st (.slice t x none (some h) (some k)) = match ev X st x with
    | .slice _ _ _ => (match sliceSz X.P t with
      | some kk => bif isZero (ev X st h) && isZero (ev X st k) then some (.slice (some 0) kk []) else none
      | none => none)
    | .rsl _ _ _ _ => (match sliceSz X.P t with
      | some kk => bif isZero (ev X st h) && isZero (ev X st k) then some (.slice (some 0) kk []) else none
      | none => none)
    | .nil => (match sliceSz X.P t with
      | some _ => bif isZero (ev X st h) && isZero (ev X st k) then some .nil else none
      | none => none)
    | _ => none := rfl
@[go_sem] theorem lenT_slice (P : Program) (u : Nat) (t : Option Nat) (k : Nat) (es : List D) : lenT P u (.slice t k es) = match sliceElem P u with | some _ => some es.length | none => none := rfl
@[go_sem] theorem lenT_rsl (P : Program) (u a b n k : Nat) : lenT P u (.rsl a b n k) = match sliceElem P u with | some _ => some n | none => none := rfl
@[go_sem] theorem lenT_nil (P : Program) (u : Nat) : lenT P u .nil = match sliceElem P u with | some _ => some 0 | none => none := rfl
@[go_sem] theorem lenT_str (P : Program) (u : Nat) (s : List UInt8) : lenT P u (.str s) = match isStr P u with | true => some s.length | false => none := rfl
@[go_sem] theorem pure_convert (s d : Nat) (x : Operand) : pureD X m st (.convert s d x) = match bytesTy X.P s && isStr X.P d with
    | true => strOf m (ev X st x)
    | false => (match intTy X.P s, intTy X.P d, ev X st x with
      | some _, some k, .int _ n => some (.int k (k.wrap n))
      | _, _, _ => none) := rfl
@[go_sem] theorem pure_binOp (op : BinOp) (t u : Nat) (x y : Operand) : pureD X m st (.binOp op t x y u) = binD X.P t op (ev X st x) (ev X st y) := rfl
@[go_sem] theorem bin_lss (P : Program) (t : Nat) (k : IntKind) (a b : Int) : binD P t .lss (.int k a) (.int k b) = some (.bool (decide (a < b))) := by simp [binD, binI]
@[go_sem] theorem bin_leq (P : Program) (t : Nat) (k : IntKind) (a b : Int) : binD P t .leq (.int k a) (.int k b) = some (.bool (decide (a ≤ b))) := by simp [binD, binI]
@[go_sem] theorem bin_gtr (P : Program) (t : Nat) (k : IntKind) (a b : Int) : binD P t .gtr (.int k a) (.int k b) = some (.bool (decide (b < a))) := by simp [binD, binI]
@[go_sem] theorem bin_geq (P : Program) (t : Nat) (k : IntKind) (a b : Int) : binD P t .geq (.int k a) (.int k b) = some (.bool (decide (b ≤ a))) := by simp [binD, binI]
@[go_sem] theorem bin_eql (P : Program) (t : Nat) (k : IntKind) (a b : Int) : binD P t .eql (.int k a) (.int k b) = some (.bool (a == b)) := by simp [binD, binI]
@[go_sem] theorem bin_neq (P : Program) (t : Nat) (k : IntKind) (a b : Int) : binD P t .neq (.int k a) (.int k b) = some (.bool (a != b)) := by simp [binD, binI]
@[go_sem] theorem bin_add (P : Program) (t : Nat) (k : IntKind) (a b : Int) : binD P t .add (.int k a) (.int k b) = some (.int k (k.wrap (a + b))) := by simp [binD, binI]
@[go_sem] theorem bin_sub (P : Program) (t : Nat) (k : IntKind) (a b : Int) : binD P t .sub (.int k a) (.int k b) = some (.int k (k.wrap (a - b))) := by simp [binD, binI]
@[go_sem] theorem bin_mul (P : Program) (t : Nat) (k : IntKind) (a b : Int) : binD P t .mul (.int k a) (.int k b) = some (.int k (k.wrap (a * b))) := by simp [binD, binI]
@[go_sem] theorem bin_quo (P : Program) (t : Nat) (k : IntKind) (a b : Int) : binD P t .quo (.int k a) (.int k b) = bif b == 0 then none else some (.int k (k.wrap (a.tdiv b))) := by simp [binD, binI]
@[go_sem] theorem bin_str_eql (P : Program) (t : Nat) (a b : List UInt8) : binD P t .eql (.str a) (.str b) = some (.bool (a == b)) := rfl
@[go_sem] theorem bin_str_neq (P : Program) (t : Nat) (a b : List UInt8) : binD P t .neq (.str a) (.str b) = some (.bool (!(a == b))) := rfl
@[go_sem] theorem bin_str_add (P : Program) (t : Nat) (a b : List UInt8) : binD P t .add (.str a) (.str b) = bif decide (a.length + b.length ≤ 140737488355328) then some (.str (a ++ b)) else none := rfl
@[go_sem] theorem pure_build (t : Nat) (l : List (Nat × Operand)) : pureD X m st (.build t l.toArray) = match isStruct X.P t, zeroD X.P t with
    | true, some (.agg z) => (match fillS X.P t z (partsD X st l) with | some cs => some (.agg cs) | none => none)
    | false, some (.agg z) => (match arrElem X.P t with
      | some (_, e) => (match szOf X.P e with
        | some k => (match fillC k z (partsD X st l) with | some cs => some (.agg cs) | none => none)
        | none => none)
      | none => none)
    | _, _ => none := rfl
@[go_sem] theorem fillC_nil (k : Nat) (cs : List D) : fillC k cs [] = some cs := rfl
@[go_sem] theorem fillC_cons (k : Nat) (cs : List D) (i : Nat) (d : D) (r : List (Nat × D)) : fillC k cs ((i, d) :: r) = bif d.okC && decide (d.cells.length = k) && decide (i * k + k ≤ cs.length) then fillC k (setRow cs (i * k) d.cells) r else none := rfl
-- makers
@[go_sem] theorem make_append (bx : Bool) (s x : Operand) (t u : Nat) : makeD X bx m st (.call { callee := .builtin .append, args := #[s, x], argTypes := #[t, u] }) = match sliceElem X.P t, sliceSz X.P t, sliceSz X.P u with
      | some e, some k, some k' => match bytesOk X.P e, zeroOk X.P e k, elemsOf m k (ev X st x), elemsOf m k (ev X st s) with
        | true, true, some xs, some es => bif decide (k' = k) && decide (es.length + xs.length ≤ 16777216) then (match bx with | true => appendB k m (ev X st s) es xs | false => appendD k m (ev X st s) xs) else none
        | _, _, _, _ => none
      | _, _, _ => none := rfl
@[go_sem] theorem row_buildSlice (t len : Nat) (l : List (Nat × Operand)) : rowD X st (.buildSlice t len l.toArray) = match sliceElem X.P t with
    | some e => match szOf X.P e, bytesOk X.P e, zeroD X.P e with
      | some k, true, some z => bif z.okC && decide (z.cells.length = k) && decide (len * k ≤ 16777216) then (match fillA (List.replicate len z) k (partsD X st l) with
        | some es => some (.slice (some 0) k es)
        | none => none) else none
      | _, _, _ => none
    | none => none := rfl
@[go_sem] theorem elems_slice (m : Mem) (k : Nat) (t : Option Nat) (k' : Nat) (es : List D) : elemsOf m k (.slice t k' es) = bif decide (k' = k) then some es else none := rfl
@[go_sem] theorem elems_nil (m : Mem) (k : Nat) : elemsOf m k .nil = some [] := rfl
@[go_sem] theorem elems_rsl (m : Mem) (k id off len k' : Nat) : elemsOf m k (.rsl id off len k') = bif decide (k' = k) then elemsR m id off len k else none := rfl
@[go_sem] theorem mkB_some (x : Nat) : mkB F (some x) = memB F.mks x := rfl
@[go_sem] theorem okC_opq  : (D.opq).okC = true := rfl
@[go_sem] theorem okC_rsl (a b c d : Nat) : (D.rsl a b c d).okC = true := rfl
@[go_sem] theorem cells_rsl (a b c d : Nat) : (D.rsl a b c d).cells = [.rsl a b c d] := rfl
-- without rights
section
variable {f : Nat → Nat → Nat → Nat → D}
@[go_sem] theorem strip_def (d : D) : strip d = stripF noR d := rfl
@[go_sem] theorem stripL_def (l : List D) : stripL l = stripFL noR l := rfl
@[go_sem] theorem frz_def (m : Mem) (d : D) : frz m d = stripF (frzM m m.boxes.length) d := rfl
@[go_sem] theorem stripF_int (k : IntKind) (n : Int) : stripF f (.int k n) = .int k n := rfl
@[go_sem] theorem stripF_bool (b : Bool) : stripF f (.bool b) = .bool b := rfl
@[go_sem] theorem stripF_str (s : List UInt8) : stripF f (.str s) = .str s := rfl
@[go_sem] theorem stripF_slice (t : Option Nat) (k : Nat) (es : List D) : stripF f (.slice t k es) = .slice none k (stripFL f es) := rfl
@[go_sem] theorem stripF_rsl (a b c d : Nat) : stripF f (.rsl a b c d) = f a b c d := rfl
@[go_sem] theorem stripF_nil : stripF f .nil = .nil := rfl
@[go_sem] theorem stripF_agg (cs : List D) : stripF f (.agg cs) = .agg (stripFL f cs) := rfl
@[go_sem] theorem stripF_tuple (cs : List D) : stripF f (.tuple cs) = .tuple (stripFL f cs) := rfl
@[go_sem] theorem stripF_ref (cs : List D) (o : Nat) : stripF f (.ref cs o) = .ref (stripFL f cs) o := rfl
@[go_sem] theorem stripF_ptr (a b : Nat) : stripF f (.ptr a b) = .opq := rfl
@[go_sem] theorem stripF_func (g : Nat) (cs : List D) : stripF f (.func g cs) = .func g (stripFL f cs) := rfl
@[go_sem] theorem stripFL_nil : stripFL f [] = [] := rfl
@[go_sem] theorem stripFL_cons (d : D) (r : List D) : stripFL f (d :: r) = stripF f d :: stripFL f r := rfl
end
-- steps
@[go_sem] theorem step_convert (dst : Option Nat) (a b : Nat) (x : Operand) (ty : Nat) (pos : String) (af : Array Edge) (K : St → Prop) (st : St) : stepI X F C ⟨dst, .convert a b x, ty, pos, af, none⟩ K st = match isStr X.P a && bytesTy X.P b with
    | true => makeK X F ⟨dst, .convert a b x, ty, pos, af, none⟩ K st
    | false => (match pureD X st.m st (.convert a b x) with | some d => K (st.put dst d) | none => False) := rfl
@[go_sem] theorem stepN_convert (m0 : Mem) (dst : Option Nat) (a b : Nat) (x : Operand) (ty : Nat) (pos : String) (af : Array Edge) (K : St → Prop) (st : St) : stepN X F C m0 ⟨dst, .convert a b x, ty, pos, af, none⟩ K st = match isStr X.P a && bytesTy X.P b with
    | true => makeK X F ⟨dst, .convert a b x, ty, pos, af, none⟩ K st
    | false => (match pureD X m0 st (.convert a b x) with | some d => K (st.put dst d) | none => False) := rfl
@[go_sem] theorem makeK_eq (o : Oper) (K : St → Prop) (st : St) : makeK X F o K st = match makeD X (mkB F o.dst) st.m st o.op with | some (d, m) => K ((st.put o.dst d).setM m) | none => False := rfl
@[go_sem] theorem step_makeFunc (dst : Option Nat) (f : Fn) (a : Array Operand) (b : List Operand) (ty : Nat) (pos : String) (af : Array Edge) (K : St → Prop) (st : St) : stepI X F C ⟨dst, .makeFunc f a b.toArray, ty, pos, af, none⟩ K st = match pureD X (promoteL st b).m (promoteL st b) (.makeFunc f a b.toArray) with | some d => K ((promoteL st b).put dst d) | none => False := rfl
@[go_sem] theorem promoteL_nil (st : St) : promoteL st [] = st := rfl
@[go_sem] theorem promoteL_cons (st : St) (x : Operand) (r : List Operand) : promoteL st (x :: r) = promoteL (promote1 st (regOf st x)) r := rfl
@[go_sem] theorem promote1_some (st : St) (k o : Nat) : promote1 st (some (k, o)) = promote st k := rfl
@[go_sem] theorem promote1_none (st : St) : promote1 st none = st := rfl
@[go_sem] theorem promote_eq (sl lp bx) (m : Mem) (k : Nat) : promote ⟨sl, lp, bx, m⟩ k = match bx k with
  | some cs => ⟨prS sl lp k m.boxes.length, dropKey k lp, upd bx k none, { m with boxes := m.boxes ++ [cs] }⟩
  | none => ⟨sl, lp, bx, m⟩ := rfl
@[go_sem] theorem prS_at (sl : Nat → D) (lp : Nat → Option (Nat × Nat)) (k id y : Nat) : prS sl lp k id y = match lp y with
  | some (k', o) => if k' = k then .ptr id o else sl y
  | none => sl y := rfl
@[go_sem] theorem step_append (dst : Option Nat) (as : Array Operand) (ts : Array Nat) (ty : Nat) (pos : String) (af : Array Edge) (K : St → Prop) (st : St) : stepI X F C ⟨dst, .call ⟨.builtin .append, as, ts⟩, ty, pos, af, none⟩ K st = match makeD X (mkB F dst) st.m st (.call ⟨.builtin .append, as, ts⟩) with | some (d, m) => K ((st.put dst d).setM m) | none => False := rfl
@[go_sem] theorem stepN_append (m0 : Mem) (dst : Option Nat) (as : Array Operand) (ts : Array Nat) (ty : Nat) (pos : String) (af : Array Edge) (K : St → Prop) (st : St) : stepN X F C m0 ⟨dst, .call ⟨.builtin .append, as, ts⟩, ty, pos, af, none⟩ K st = match makeD X (mkB F dst) st.m st (.call ⟨.builtin .append, as, ts⟩) with | some (d, m) => K ((st.put dst d).setM m) | none => False := rfl
@[go_sem] theorem step_makeSlice (dst : Option Nat) (t : Nat) (a b : Operand) (ty : Nat) (pos : String) (af : Array Edge) (K : St → Prop) (st : St) : stepI X F C ⟨dst, .makeSlice t a b, ty, pos, af, none⟩ K st = match makeD X (mkB F dst) st.m st (.makeSlice t a b) with | some (d, m) => K ((st.put dst d).setM m) | none => False := rfl
@[go_sem] theorem step_call (dst : Option Nat) (f : Operand) (as : List Operand) (ts : Array Nat) (ty : Nat) (pos : String) (af : Array Edge) (K : St → Prop) (st : St) : stepI X F C ⟨dst, .call ⟨.value f, as.toArray, ts⟩, ty, pos, af, none⟩ K st =
    match ev X st f with
    | .func g cap => (match decide (g < 100000) with
      | true => C.run (ix F dst g) st.m (argsD X st as ++ cap) fun r m => K ((st.put dst r).setM m)
      | false => False)
    | _ => False := rfl
@[go_sem] theorem ix_some (x g : Nat) : ix F (some x) g = match opL F.alt x with | some v => g + v * 100000 | none => g := rfl
@[go_sem] theorem ix_none (g : Nat) : ix F none g = g := rfl
@[go_sem] theorem stepN_call (m0 : Mem) (dst : Option Nat) (f : Operand) (as : List Operand) (ts : Array Nat) (ty : Nat) (pos : String) (af : Array Edge) (K : St → Prop) (st : St) : stepN X F C m0 ⟨dst, .call ⟨.value f, as.toArray, ts⟩, ty, pos, af, none⟩ K st =
    match pureOf C.pf F dst f with
    | some g => (match C.pv g (argsD X st as) with
      | some d => K (st.put dst d)
      | none => False)
    | none => (match ev X st f with
      | .func g cap => (match decide (g < 100000) with
        | true => callN C (mkB F dst) (ix F dst g) (argsD X st as ++ cap) dst K st
        | false => False)
      | _ => False) := rfl
@[go_sem] theorem pureOf_func (pf : Nat → Bool) (dst : Option Nat) (g : Nat) : pureOf pf F dst (.func g) = match decide (g < 100000) && pf (ix F dst g) with | true => some (ix F dst g) | false => none := rfl
@[go_sem] theorem pureOf_tmp (pf : Nat → Bool) (dst : Option Nat) (x : Nat) : pureOf pf F dst (.tmp x) = none := rfl
@[go_sem] theorem locOk_eq (st : St) (p : Operand) : locOk F st p = eqR F (regOf st p) (locOf F p) := rfl
@[go_sem] theorem locOf_tmp (x : Nat) : locOf F (.tmp x) = match opL F.loc x with
    | some (k, o) => (match memB F.cap k with | true => none | false => some (k, o))
    | none => none := rfl
@[go_sem] theorem locOf_global (g : Nat) : locOf F (.global g) = none := rfl
@[go_sem] theorem eqR_none : eqR F none none = true := rfl
@[go_sem] theorem eqR_some (a b c d : Nat) : eqR F (some (a, b)) (some (c, d)) = (decide (a = c) && decide (b = d)) := rfl
@[go_sem] theorem eqR_cap (a b : Nat) : eqR F (some (a, b)) none = memB F.cap a := rfl
@[go_sem] theorem stepN_alloc (m0 : Mem) (x t : Nat) (ty : Nat) (pos : String) (af : Array Edge) (K : St → Prop) (st : St) : stepN X F C m0 ⟨some x, .alloc t, ty, pos, af, none⟩ K st =
    match zeroD X.P t with
    | some z => (match memB F.esc x with
      | true => K ((st.put (some x) (.ptr st.m.boxes.length 0)).setM { st.m with boxes := st.m.boxes ++ [z.cells] })
      | false => (match st.bx x with
        | none => K (st.newBox x z.cells)
        | some _ => False))
    | none => False := rfl
@[go_sem] theorem stepN_box (m0 : Mem) (x t : Nat) (v : Operand) (ty : Nat) (pos : String) (af : Array Edge) (K : St → Prop) (st : St) : stepN X F C m0 ⟨some x, .box t v, ty, pos, af, none⟩ K st =
    match szOf X.P t with
    | some n => (match (ev X st v).okC && decide ((ev X st v).cells.length = n) with
      | true => (match memB F.esc x with
        | true => K ((st.put (some x) (.ptr st.m.boxes.length 0)).setM { st.m with boxes := st.m.boxes ++ [(ev X st v).cells] })
        | false => (match st.bx x with
          | none => K (st.newBox x (ev X st v).cells)
          | some _ => False))
      | false => False)
    | none => False := rfl
end
/-! Short names for the walks' steps. -/
def condP (d : D) (A B : Prop) : Prop := match d with
  | .bool true => A
  | .bool false => B
  | _ => False
@[go_sem] theorem condP_true (A B : Prop) : condP (.bool true) A B = A := rfl
@[go_sem] theorem condP_false (A B : Prop) : condP (.bool false) A B = B := rfl
attribute [go_sem] bne_self_eq_false beq_self_eq_true List.replicate_succ List.replicate_zero
section
variable {X : Ctx} {F : Fi} {C : CallW} {Q : Post} {st : St}
theorem q1 {a b : Code} (h : wpI X F C a (thenP (wpI X F C b Q) Q) st) : wpI X F C (.seq a b) Q st := h
theorem q2 {id : Nat} {a : Code} (h : wpI X F C a (blockP id Q) st) : wpI X F C (.block id a) Q st := h
theorem q3 (h : Q .normal st) : wpI X F C .skip Q st := h
theorem q4 {id : Nat} (h : Q (.exit id) st) : wpI X F C (.exit id) Q st := h
theorem q5 (h : Q .ret st) : wpI X F C .ret Q st := h
theorem q6 {next : St → Prop} (h : next st) : thenP next Q .normal st := h
theorem q7 {next : St → Prop} (h : Q .ret st) : thenP next Q .ret st := h
theorem q8 {next : St → Prop} {id : Nat} (h : Q (.exit id) st) : thenP next Q (.exit id) st := h
theorem q9 {id : Nat} (h : Q .normal st) : blockP id Q .normal st := h
theorem q10 {id : Nat} (h : Q .ret st) : blockP id Q .ret st := h
theorem q11 {id : Nat} (h : Q .normal st) : blockP id Q (.exit id) st := blockP_here h
theorem q12 {id id' : Nat} (hn : id' ≠ id) (h : Q (.exit id') st) : blockP id Q (.exit id') st := blockP_far hn h
theorem q13 {id : Nat} {l : List Oper} (h : ∀ K : St → Prop, (∀ st', Q .normal st' → K st') → wpOps X F C l l (fun st' => K (st'.keep F.ext)) st) : wpI X F C (.region id l.toArray false) Q st := wpI_region h
theorem q14 {id : Nat} {l : List Oper} (hl : memB F.bad id = false) (h : ∀ K : St → Prop, (∀ st', Q .normal st' → K st') → wpOpsN X F C st.m l l (fun st' => K (st'.keep F.ext)) st) : wpI X F C (.region id l.toArray true) Q st := wpI_regionN hl h
theorem q15 {c : Operand} {a b : Code} (h : ∀ A B : Prop, (wpI X F C a Q st → A) → (wpI X F C b Q st → B) → condP (ev X st c) A B) : wpI X F C (.cond c a b) Q st := by
  have h := h _ _ id id
  unfold condP at h
  split at h
  · exact wpI_cond_true (by assumption) h
  · exact wpI_cond_false (by assumption) h
  · exact h.elim
end
end Go.Eng
