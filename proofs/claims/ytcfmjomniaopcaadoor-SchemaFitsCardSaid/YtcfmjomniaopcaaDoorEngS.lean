/- Part of the engine that proves it: see the last text. -/
import Derived.Test.YtcfmjomniaopcaaDoorEngP
import Derived.Attr
/- The equations by which the abstract machine is run ('simp only [go_sem]'). -/
namespace Go.Eng
open Go
section
variable {X : Ctx} {F : Fi} {C : CallW} {st : St} {m : Mem} {α : Type}
@[go_sem] theorem upd_at (f : Nat → α) (x : Nat) (a : α) (y : Nat) : upd f x a y = if y = x then a else f y := rfl
@[go_sem] theorem slL_nil (y : Nat) : slL [] y = .undef := rfl
@[go_sem] theorem slL_cons (x : Nat) (a : D) (r : List (Nat × D)) (y : Nat) : slL ((x, a) :: r) y = if y = x then a else slL r y := rfl
@[go_sem] theorem opL_nil (y : Nat) : opL ([] : List (Nat × α)) y = none := rfl
@[go_sem] theorem opL_cons (x : Nat) (a : α) (r : List (Nat × α)) (y : Nat) : opL ((x, a) :: r) y = if y = x then some a else opL r y := rfl
@[go_sem] theorem keepS_nil (f : Nat → D) : keepS f [] = [] := rfl
@[go_sem] theorem keepS_cons (f : Nat → D) (x : Nat) (r : List Nat) : keepS f (x :: r) = (x, f x) :: keepS f r := rfl
@[go_sem] theorem keepO_nil (f : Nat → Option α) : keepO f [] = [] := rfl
@[go_sem] theorem keepO_cons (f : Nat → Option α) (x : Nat) (r : List Nat) : keepO f (x :: r) = match f x with | some a => (x, a) :: keepO f r | none => keepO f r := rfl
@[go_sem] theorem memB_nil (x : Nat) : memB [] x = false := rfl
@[go_sem] theorem memB_cons (y : Nat) (r : List Nat) (x : Nat) : memB (y :: r) x = if y = x then true else memB r x := rfl
@[go_sem] theorem keepReg_some (l : List Nat) (k o : Nat) : keepReg l (some (k, o)) = match memB l k with | true => some (k, o) | false => none := rfl
@[go_sem] theorem keepReg_none (l : List Nat) : keepReg l none = none := rfl
@[go_sem] theorem keepR_at (l : List Nat) (lp : Nat → Option (Nat × Nat)) (x : Nat) : keepR l lp x = keepReg l (lp x) := rfl
@[go_sem] theorem keep_eq (l : List Nat) (sl lp bx) (m : Mem) : St.keep ⟨sl, lp, bx, m⟩ l = ⟨slL (keepS sl l), opL (keepO (keepR l lp) l), opL (keepO bx l), m⟩ := rfl
@[go_sem] theorem dropReg_some (t k o : Nat) : dropReg t (some (k, o)) = if k = t then none else some (k, o) := rfl
@[go_sem] theorem dropReg_none (t : Nat) : dropReg t none = none := rfl
@[go_sem] theorem dropKey_at (t : Nat) (lp : Nat → Option (Nat × Nat)) (x : Nat) : dropKey t lp x = dropReg t (lp x) := rfl
@[go_sem] theorem updReg_none (lp : Nat → Option (Nat × Nat)) (x : Nat) : updReg none lp x = lp := rfl
@[go_sem] theorem updReg_some (a : Nat × Nat) (lp : Nat → Option (Nat × Nat)) (x : Nat) : updReg (some a) lp x = upd lp x none := rfl
@[go_sem] theorem put_some (sl lp bx) (m : Mem) (x : Nat) (d : D) : St.put ⟨sl, lp, bx, m⟩ (some x) d = ⟨upd sl x d, updReg (lp x) lp x, bx, m⟩ := rfl
@[go_sem] theorem put_none (st : St) (d : D) : st.put none d = st := rfl
@[go_sem] theorem setM_eq (sl lp bx) (m m' : Mem) : St.setM ⟨sl, lp, bx, m⟩ m' = ⟨sl, lp, bx, m'⟩ := rfl
@[go_sem] theorem putL_eq (sl lp bx) (m : Mem) (x k o : Nat) : St.putL ⟨sl, lp, bx, m⟩ x k o = ⟨upd sl x .undef, upd lp x (some (k, o)), bx, m⟩ := rfl
@[go_sem] theorem dropIf_none (x : Nat) (lp : Nat → Option (Nat × Nat)) : dropIf (none : Option α) x lp = lp := rfl
@[go_sem] theorem dropIf_some (a : α) (x : Nat) (lp : Nat → Option (Nat × Nat)) : dropIf (some a) x lp = dropKey x lp := rfl
@[go_sem] theorem newBox_eq (sl lp bx) (m : Mem) (x : Nat) (cs : List D) : St.newBox ⟨sl, lp, bx, m⟩ x cs = ⟨upd sl x .undef, upd (dropIf (bx x) x lp) x (some (x, 0)), upd bx x (some cs), m⟩ := rfl
@[go_sem] theorem ev_tmp (sl lp bx) (m : Mem) (x : Nat) : ev X ⟨sl, lp, bx, m⟩ (.tmp x) = sl x := rfl
@[go_sem] theorem ev_int (st : St) (k : IntKind) (n : Int) : ev X st (.const (.int k n)) = .int k n := rfl
@[go_sem] theorem ev_bool (st : St) (b : Bool) : ev X st (.const (.bool b)) = .bool b := rfl
@[go_sem] theorem ev_str (st : St) (s : ByteArray) : ev X st (.const (.string s)) = .str s.data.toList := rfl
@[go_sem] theorem ev_nil (st : St) : ev X st (.const (.slice none 0 0)) = .nil := rfl
@[go_sem] theorem ev_nilptr (st : St) : ev X st (.const (.pointer none)) = .nilptr := rfl
@[go_sem] theorem ev_nilfunc (st : St) : ev X st (.const .nilFunc) = .nilfunc := rfl
@[go_sem] theorem ev_func (st : St) (f : Nat) : ev X st (.func f) = .func f [] := rfl
@[go_sem] theorem ev_global (st : St) (g : Nat) : ev X st (.global g) = match X.G g with | some cs => .ref cs 0 | none => .undef := rfl
@[go_sem] theorem argsD_nil (st : St) : argsD X st [] = [] := rfl
@[go_sem] theorem argsD_cons (st : St) (x : Operand) (r : List Operand) : argsD X st (x :: r) = ev X st x :: argsD X st r := rfl
@[go_sem] theorem partsD_nil (st : St) : partsD X st [] = [] := rfl
@[go_sem] theorem partsD_cons (st : St) (i : Nat) (x : Operand) (r : List (Nat × Operand)) : partsD X st ((i, x) :: r) = (i, ev X st x) :: partsD X st r := rfl
@[go_sem] theorem cells_agg (cs : List D) : (D.agg cs).cells = cs := rfl
@[go_sem] theorem cells_int (k : IntKind) (n : Int) : (D.int k n).cells = [.int k n] := rfl
@[go_sem] theorem cells_bool (b : Bool) : (D.bool b).cells = [.bool b] := rfl
@[go_sem] theorem cells_str (s : List UInt8) : (D.str s).cells = [.str s] := rfl
@[go_sem] theorem cells_slice (t : Option Nat) (k : Nat) (es : List D) : (D.slice t k es).cells = [.slice t k es] := rfl
@[go_sem] theorem cells_nil : D.nil.cells = [.nil] := rfl
@[go_sem] theorem cells_opq : D.opq.cells = [.opq] := rfl
@[go_sem] theorem cells_ref (c : List D) (o : Nat) : (D.ref c o).cells = [.ref c o] := rfl
@[go_sem] theorem cells_ptr (i o : Nat) : (D.ptr i o).cells = [.ptr i o] := rfl
@[go_sem] theorem cells_nilptr : D.nilptr.cells = [.nilptr] := rfl
@[go_sem] theorem cells_func (f : Nat) (c : List D) : (D.func f c).cells = [.func f c] := rfl
@[go_sem] theorem okC_int (k : IntKind) (n : Int) : (D.int k n).okC = true := rfl
@[go_sem] theorem okC_bool (b : Bool) : (D.bool b).okC = true := rfl
@[go_sem] theorem okC_str (s : List UInt8) : (D.str s).okC = true := rfl
@[go_sem] theorem okC_slice (t : Option Nat) (k : Nat) (es : List D) : (D.slice t k es).okC = true := rfl
@[go_sem] theorem okC_nil  : (D.nil).okC = true := rfl
@[go_sem] theorem okC_ptr (a b : Nat) : (D.ptr a b).okC = true := rfl
@[go_sem] theorem okC_nilptr  : (D.nilptr).okC = true := rfl
@[go_sem] theorem okC_ref (c : List D) (o : Nat) : (D.ref c o).okC = true := rfl
@[go_sem] theorem okC_func (f : Nat) (c : List D) : (D.func f c).okC = true := rfl
@[go_sem] theorem okC_nilfunc  : (D.nilfunc).okC = true := rfl
@[go_sem] theorem okC_agg (c : List D) : (D.agg c).okC = true := rfl
-- operations
@[go_sem] theorem pure_move (x : Operand) : pureD X m st (.move x) = some (ev X st x) := rfl
@[go_sem] theorem pure_assign (x : Operand) : pureD X m st (.assign x) = some (ev X st x) := rfl
@[go_sem] theorem pure_pick (c a b : Operand) : pureD X m st (.pick c a b) = pickD (ev X st c) (ev X st a) (ev X st b) := rfl
@[go_sem] theorem pick_true (a b : D) : pickD (.bool true) a b = some a := rfl
@[go_sem] theorem pick_false (a b : D) : pickD (.bool false) a b = some b := rfl
@[go_sem] theorem pure_load (t : Nat) (p : Operand) : pureD X m st (.load t p) = match place X m st p with | some (cs, off) => takeD X.P t cs off | none => none := rfl
@[go_sem] theorem place_tmp (sl lp bx) (m' m : Mem) (t : Nat) : place X m ⟨sl, lp, bx, m'⟩ (.tmp t) = match lp t with
    | some (key, off) => match bx key with | some cs => some (cs, off) | none => none
    | none => placeV m (sl t) := rfl
@[go_sem] theorem place_global (st : St) (m : Mem) (g : Nat) : place X m st (.global g) = placeV m (match X.G g with | some cs => .ref cs 0 | none => .undef) := rfl
@[go_sem] theorem placeV_ref (cs : List D) (o : Nat) : placeV m (.ref cs o) = some (cs, o) := rfl
@[go_sem] theorem placeV_ptr (id o : Nat) : placeV m (.ptr id o) = match m.boxes[id]? with | some cs => some (cs, o) | none => none := rfl
@[go_sem] theorem pure_nilCheck (x : Operand) : pureD X m st (.nilCheck x) = match ev X st x with
    | .ptr a b => some (.ptr a b)
    | .ref a b => some (.ref a b)
    | .func a b => some (.func a b)
    | _ => none := rfl
@[go_sem] theorem pure_unOp (op : UnOp) (t : Nat) (x : Operand) : pureD X m st (.unOp op t x) = unD op (ev X st x) := rfl
@[go_sem] theorem un_not (b : Bool) : unD .not (.bool b) = some (.bool (!b)) := rfl
@[go_sem] theorem un_neg (k : IntKind) (n : Int) : unD .neg (.int k n) = some (.int k (k.wrap (0 - n))) := rfl
@[go_sem] theorem binI_add (k : IntKind) (a b : Int) : binI .add k a b = some (.int k (k.wrap (a + b))) := rfl
@[go_sem] theorem binI_sub (k : IntKind) (a b : Int) : binI .sub k a b = some (.int k (k.wrap (a - b))) := rfl
@[go_sem] theorem binI_mul (k : IntKind) (a b : Int) : binI .mul k a b = some (.int k (k.wrap (a * b))) := rfl
@[go_sem] theorem binI_lss (k : IntKind) (a b : Int) : binI .lss k a b = some (.bool (decide (a < b))) := rfl
@[go_sem] theorem binI_leq (k : IntKind) (a b : Int) : binI .leq k a b = some (.bool (decide (a ≤ b))) := rfl
@[go_sem] theorem binI_gtr (k : IntKind) (a b : Int) : binI .gtr k a b = some (.bool (decide (b < a))) := rfl
@[go_sem] theorem binI_geq (k : IntKind) (a b : Int) : binI .geq k a b = some (.bool (decide (b ≤ a))) := rfl
@[go_sem] theorem binI_eql (k : IntKind) (a b : Int) : binI .eql k a b = some (.bool (a == b)) := rfl
@[go_sem] theorem binI_neq (k : IntKind) (a b : Int) : binI .neq k a b = some (.bool (a != b)) := rfl
@[go_sem] theorem bin_bool_eql (P : Program) (t : Nat) (a b : Bool) : binD P t .eql (.bool a) (.bool b) = match eqD P t (.bool a) (.bool b) with | some b => some (.bool b) | none => none := rfl
@[go_sem] theorem bin_bool_neq (P : Program) (t : Nat) (a b : Bool) : binD P t .neq (.bool a) (.bool b) = match eqD P t (.bool a) (.bool b) with | some b => some (.bool (!b)) | none => none := rfl
@[go_sem] theorem bin_agg_eql (P : Program) (t : Nat) (a b : List D) : binD P t .eql (.agg a) (.agg b) = match eqD P t (.agg a) (.agg b) with | some b => some (.bool b) | none => none := rfl
@[go_sem] theorem bin_agg_neq (P : Program) (t : Nat) (a b : List D) : binD P t .neq (.agg a) (.agg b) = match eqD P t (.agg a) (.agg b) with | some b => some (.bool (!b)) | none => none := rfl
@[go_sem] theorem bin_nil_eql (P : Program) (t : Nat) (a : D) : binD P t .eql a .nil = match eqD P t a .nil with | some b => some (.bool b) | none => none := by cases a <;> rfl
@[go_sem] theorem bin_nil_neq (P : Program) (t : Nat) (a : D) : binD P t .neq a .nil = match eqD P t a .nil with | some b => some (.bool (!b)) | none => none := by cases a <;> rfl
@[go_sem] theorem eqD_agg (P : Program) (t : Nat) (a b : List D) : eqD P t (.agg a) (.agg b) = match eqTags P t with | some gs => eqT gs a b | none => none := rfl
@[go_sem] theorem eqD_bool (P : Program) (t : Nat) (a b : Bool) : eqD P t (.bool a) (.bool b) = bif isBoolT P t then some (a == b) else none := rfl
@[go_sem] theorem eqD_nil (P : Program) (t : Nat) : eqD P t .nil .nil = match sliceElem P t with | some _ => some true | none => none := rfl
@[go_sem] theorem eqD_slice (P : Program) (t : Nat) (g : Option Nat) (k : Nat) (es : List D) : eqD P t (.slice g k es) .nil = match sliceElem P t with | some _ => some false | none => none := rfl
@[go_sem] theorem eqT_nil : eqT [] [] [] = some true := rfl
@[go_sem] theorem eqT_cons (g : Nat) (gs : List Nat) (a b : D) (x y : List D) : eqT (g :: gs) (a :: x) (b :: y) = match eqC g a b, eqT gs x y with | some p, some q => some (p && q) | _, _ => none := rfl
@[go_sem] theorem eqC_int (a b : Int) : eqC 0 (.int .i64 a) (.int .i64 b) = some (a == b) := rfl
@[go_sem] theorem eqC_bool (a b : Bool) : eqC 1 (.bool a) (.bool b) = some (a == b) := rfl
@[go_sem] theorem eqC_str (a b : List UInt8) : eqC 2 (.str a) (.str b) = some (a == b) := rfl
@[go_sem] theorem pure_makeFunc (f : Nat) (c : List Operand) : pureD X m st (.makeFunc (.func f) #[] c.toArray) = some (.func f (c.map (ev X st))) := rfl
@[go_sem] theorem pure_field (t : Nat) (x : Operand) (i : Nat) : pureD X m st (.field t x i) = match fieldOff X.P t i, fieldTy X.P t i, ev X st x with
    | some off, some ft, .agg cs => takeD X.P ft cs off
    | _, _, _ => none := rfl
@[go_sem] theorem fillS_nil (P : Program) (t : Nat) (cs : List D) : fillS P t cs [] = some cs := rfl
@[go_sem] theorem fillS_cons (P : Program) (t : Nat) (cs : List D) (i : Nat) (d : D) (r : List (Nat × D)) : fillS P t cs ((i, d) :: r) = match fieldOff P t i, (fieldTy P t i).bind (szOf P) with
    | some off, some n => bif d.okC && decide (d.cells.length = n) && decide (off + n ≤ cs.length) then fillS P t (setRow cs off d.cells) r else none
    | _, _ => none := rfl
@[go_sem] theorem fillA_nil (es : List D) (k : Nat) : fillA es k [] = some es := rfl
@[go_sem] theorem fillA_cons (es : List D) (k i : Nat) (d : D) (r : List (Nat × D)) : fillA es k ((i, d) :: r) = bif d.okC && decide (d.cells.length = k) && decide (i < es.length) then fillA (es.set i d) k r else none := rfl
@[go_sem] theorem setRow_nil (cs : List D) (o : Nat) : setRow cs o [] = cs := rfl
@[go_sem] theorem setRow_cons (cs : List D) (o : Nat) (d : D) (r : List D) : setRow cs o (d :: r) = setRow (cs.set o d) (o + 1) r := rfl
@[go_sem] theorem pure_fieldAddr_tmp (sl lp bx) (m' m : Mem) (t : Nat) (x i : Nat) : pureD X m ⟨sl, lp, bx, m'⟩ (.fieldAddr t (.tmp x) i) = match fieldOff X.P t i, sl x with
    | some o, .ref cs off => some (.ref cs (off + o))
    | some o, .ptr id off => some (.ptr id (off + o))
    | _, _ => none := rfl
@[go_sem] theorem pure_index (t : Nat) (x i : Operand) : pureD X m st (.index t x i) = match ev X st x, ev X st i with
    | .str s, .int _ n => bif isStr X.P t then (match atI s n with
      | some b => some (.int .u8 b.toNat)
      | none => none) else none
    | .agg cs, .int _ n => match arrElem X.P t with
      | some (len, e) => match szOf X.P e with
        | some k => bif decide (0 ≤ n) && decide (n < len) then takeD X.P e cs (n.toNat * k) else none
        | none => none
      | none => none
    | _, _ => none := rfl
@[go_sem] theorem atI_cast {β : Type} (l : List β) (n : Nat) : atI l (n : Int) = l[n]? := rfl
@[go_sem] theorem pure_extract (x : Operand) (i : Nat) : pureD X m st (.extract x i) = match ev X st x with
    | .tuple ds => ds[i]?
    | _ => none := rfl
@[go_sem] theorem isZero_int (k : IntKind) (n : Int) : isZero (.int k n) = decide (n = 0) := rfl
@[go_sem] theorem optI_none (z : Option Int) : optI X st z none = z := rfl
@[go_sem] theorem optI_some (z : Option Int) (x : Operand) : optI X st z (some x) = match ev X st x with | .int _ n => some n | _ => none := rfl
@[go_sem] theorem pure_len (x : Operand) (t : Nat) : pureD X m st (.call { callee := .builtin .len, args := #[x], argTypes := #[t] }) = match lenT X.P t (ev X st x) with | some n => some (.int .i64 n) | none => none := rfl
@[go_sem] theorem len_slice (t : Option Nat) (k : Nat) (es : List D) : lenD (.slice t k es) = some es.length := rfl
@[go_sem] theorem len_nil : lenD .nil = some 0 := rfl
@[go_sem] theorem len_str (s : List UInt8) : lenD (.str s) = some s.length := rfl
@[go_sem] theorem pure_min (x : Operand) (r : List Operand) (ts : Array Nat) : pureD X m st (.call { callee := .builtin .min, args := (x :: r).toArray, argTypes := ts }) = minL true (ev X st x) (r.map (ev X st)) := rfl
@[go_sem] theorem pure_max (x : Operand) (r : List Operand) (ts : Array Nat) : pureD X m st (.call { callee := .builtin .max, args := (x :: r).toArray, argTypes := ts }) = minL false (ev X st x) (r.map (ev X st)) := rfl
@[go_sem] theorem minL_nil (lo : Bool) (k : IntKind) (a : Int) : minL lo (.int k a) [] = some (.int k a) := rfl
@[go_sem] theorem minL_cons (lo : Bool) (x y : D) (r : List D) : minL lo x (y :: r) = match min2 lo x y with | some z => minL lo z r | none => none := rfl
@[go_sem] theorem min2_min (a b : Int) : min2 true (.int .i64 a) (.int .i64 b) = some (.int .i64 (if b < a then b else a)) := rfl
@[go_sem] theorem min2_max (a b : Int) : min2 false (.int .i64 a) (.int .i64 b) = some (.int .i64 (if b > a then b else a)) := rfl
@[go_sem] theorem binI_quo (k : IntKind) (a b : Int) : binI .quo k a b = bif b == 0 then none else some (.int k (k.wrap (a.tdiv b))) := rfl
@[go_sem] theorem binI_rem (k : IntKind) (a b : Int) : binI .rem k a b = bif b == 0 then none else some (.int k (a.tmod b)) := rfl
@[go_sem] theorem app_empty (k : Nat) (m : Mem) (s : D) : appendD k m s [] = some (s, m) := rfl
@[go_sem] theorem app_nil (k : Nat) (b : List (List D)) (t : List Nat) (x : D) (xs : List D) : appendD k ⟨b, t⟩ .nil (x :: xs) = some (.slice (some (t.length + 1)) k (x :: xs), ⟨b, t ++ [(x :: xs).length]⟩) := rfl
@[go_sem] theorem app_full (k k' : Nat) (b : List (List D)) (t : List Nat) (es : List D) (x : D) (xs : List D) : appendD k ⟨b, t⟩ (.slice (some 0) k' es) (x :: xs) = bif decide (k = k') then some (.slice (some (t.length + 1)) k (es ++ x :: xs), ⟨b, t ++ [(es ++ x :: xs).length]⟩) else none := rfl
@[go_sem] theorem app_tok (k k' id : Nat) (b : List (List D)) (t : List Nat) (es : List D) (x : D) (xs : List D) : appendD k ⟨b, t⟩ (.slice (some (id + 1)) k' es) (x :: xs) = match t[id]? with
      | some n => bif decide (k = k') && decide (n = es.length) then some (.slice (some (id + 1)) k (es ++ x :: xs), ⟨b, t.set id (es ++ x :: xs).length⟩) else none
      | none => none := rfl
@[go_sem] theorem takeD_eq (P : Program) (t : Nat) (cs : List D) (off : Nat) : takeD P t cs off = match isAgg P t with
  | some true => (match szOf P t with
    | some n => bif decide (off + n ≤ cs.length) then some (.agg ((cs.drop off).take n)) else none
    | none => none)
  | some false => cs[off]?
  | none => none := rfl
-- steps
@[go_sem] theorem wpOps_nil (all : List Oper) (K : St → Prop) (st : St) : wpOps X F C all [] K st = K st := rfl
@[go_sem] theorem wpOps_cons (all : List Oper) (o : Oper) (r : List Oper) (K : St → Prop) (st : St) : wpOps X F C all (o :: r) K st = opI X F C all o (wpOps X F C all r K) st := rfl
@[go_sem] theorem opI_plain (all : List Oper) (dst : Option Nat) (op : Op) (ty : Nat) (pos : String) (af : Array Edge) (K : St → Prop) (st : St) :
    opI X F C all ⟨dst, op, ty, pos, af, none⟩ K st = stepI X F C ⟨dst, op, ty, pos, af, none⟩ K st := rfl
theorem opI_guard (all : List Oper) (dst : Option Nat) (op : Op) (ty : Nat) (pos : String) (af : Array Edge) (j : Nat) (want : Bool) (K : St → Prop) (st : St) :
    opI X F C all ⟨dst, op, ty, pos, af, some (j, want)⟩ K st = match guardI all st j with
    | some (some b) => (match eqB want b with
      | true => stepI X F C ⟨dst, op, ty, pos, af, none⟩ K st
      | false => K (st.put dst (.tuple [])))
    | some none => K (st.put dst (.tuple []))
    | none => False := rfl
/-- Whether a guarded operation is done; whether it is left out. -/
def goB (want : Bool) : Option (Option Bool) → Bool
  | some (some b) => eqB want b
  | _ => false
def skB (want : Bool) : Option (Option Bool) → Bool
  | some (some b) => !eqB want b
  | some none => true
  | none => false
@[go_sem] theorem goB_some (w b : Bool) : goB w (some (some b)) = eqB w b := rfl
@[go_sem] theorem goB_none (w : Bool) : goB w (some none) = false := rfl
@[go_sem] theorem skB_some (w b : Bool) : skB w (some (some b)) = !eqB w b := rfl
@[go_sem] theorem skB_none (w : Bool) : skB w (some none) = true := rfl
@[go_sem] theorem opI_go (all : List Oper) (dst : Option Nat) (op : Op) (ty : Nat) (pos : String) (af : Array Edge) (j : Nat) (want : Bool) (K : St → Prop) (st : St) (h : goB want (guardI all st j) = true) :
    opI X F C all ⟨dst, op, ty, pos, af, some (j, want)⟩ K st = stepI X F C ⟨dst, op, ty, pos, af, none⟩ K st := by
  rw [opI_guard]; revert h
  rcases guardI all st j with _ | _ | b
  · intro h; cases h
  · intro h; cases h
  · intro h; have h : eqB want b = true := h; simp only [h]
@[go_sem] theorem opI_sk (all : List Oper) (dst : Option Nat) (op : Op) (ty : Nat) (pos : String) (af : Array Edge) (j : Nat) (want : Bool) (K : St → Prop) (st : St) (h : skB want (guardI all st j) = true) :
    opI X F C all ⟨dst, op, ty, pos, af, some (j, want)⟩ K st = K (st.put dst (.tuple [])) := by
  rw [opI_guard]; revert h
  rcases guardI all st j with _ | _ | b
  · intro h; cases h
  · intro _; rfl
  · intro h; have h : (!eqB want b) = true := h; simp only [Bool.not_eq_true'] at h; simp only [h]
@[go_sem] theorem step_move (dst : Option Nat) (x : Operand) (ty : Nat) (pos : String) (af : Array Edge) (K : St → Prop) (st : St) : stepI X F C ⟨dst, .move x, ty, pos, af, none⟩ K st = match pureD X st.m st (.move x) with | some d => K (st.put dst d) | none => False := rfl
@[go_sem] theorem step_assign (dst : Option Nat) (x : Operand) (ty : Nat) (pos : String) (af : Array Edge) (K : St → Prop) (st : St) : stepI X F C ⟨dst, .assign x, ty, pos, af, none⟩ K st = match pureD X st.m st (.assign x) with | some d => K (st.put dst d) | none => False := rfl
@[go_sem] theorem step_pick (dst : Option Nat) (c a b : Operand) (ty : Nat) (pos : String) (af : Array Edge) (K : St → Prop) (st : St) : stepI X F C ⟨dst, .pick c a b, ty, pos, af, none⟩ K st = match pureD X st.m st (.pick c a b) with | some d => K (st.put dst d) | none => False := rfl
@[go_sem] theorem step_load (dst : Option Nat) (t : Nat) (p : Operand) (ty : Nat) (pos : String) (af : Array Edge) (K : St → Prop) (st : St) : stepI X F C ⟨dst, .load t p, ty, pos, af, none⟩ K st = match pureD X st.m st (.load t p) with | some d => K (st.put dst d) | none => False := rfl
@[go_sem] theorem step_binOp (dst : Option Nat) (op : BinOp) (t u : Nat) (x y : Operand) (ty : Nat) (pos : String) (af : Array Edge) (K : St → Prop) (st : St) : stepI X F C ⟨dst, .binOp op t x y u, ty, pos, af, none⟩ K st = match pureD X st.m st (.binOp op t x y u) with | some d => K (st.put dst d) | none => False := rfl
@[go_sem] theorem step_unOp (dst : Option Nat) (op : UnOp) (t : Nat) (x : Operand) (ty : Nat) (pos : String) (af : Array Edge) (K : St → Prop) (st : St) : stepI X F C ⟨dst, .unOp op t x, ty, pos, af, none⟩ K st = match pureD X st.m st (.unOp op t x) with | some d => K (st.put dst d) | none => False := rfl
@[go_sem] theorem step_field (dst : Option Nat) (t : Nat) (x : Operand) (i : Nat) (ty : Nat) (pos : String) (af : Array Edge) (K : St → Prop) (st : St) : stepI X F C ⟨dst, .field t x i, ty, pos, af, none⟩ K st = match pureD X st.m st (.field t x i) with | some d => K (st.put dst d) | none => False := rfl
@[go_sem] theorem step_build (dst : Option Nat) (t : Nat) (ps : Array (Nat × Operand)) (ty : Nat) (pos : String) (af : Array Edge) (K : St → Prop) (st : St) : stepI X F C ⟨dst, .build t ps, ty, pos, af, none⟩ K st = match pureD X st.m st (.build t ps) with | some d => K (st.put dst d) | none => False := rfl
@[go_sem] theorem step_indexAddr (dst : Option Nat) (t : Nat) (x i : Operand) (ty : Nat) (pos : String) (af : Array Edge) (K : St → Prop) (st : St) : stepI X F C ⟨dst, .indexAddr t x i, ty, pos, af, none⟩ K st = match pureD X st.m st (.indexAddr t x i) with | some d => K (st.put dst d) | none => False := rfl
@[go_sem] theorem step_index (dst : Option Nat) (t : Nat) (x i : Operand) (ty : Nat) (pos : String) (af : Array Edge) (K : St → Prop) (st : St) : stepI X F C ⟨dst, .index t x i, ty, pos, af, none⟩ K st = match pureD X st.m st (.index t x i) with | some d => K (st.put dst d) | none => False := rfl
@[go_sem] theorem step_extract (dst : Option Nat) (x : Operand) (i : Nat) (ty : Nat) (pos : String) (af : Array Edge) (K : St → Prop) (st : St) : stepI X F C ⟨dst, .extract x i, ty, pos, af, none⟩ K st = match pureD X st.m st (.extract x i) with | some d => K (st.put dst d) | none => False := rfl
@[go_sem] theorem step_slice (dst : Option Nat) (t : Nat) (x : Operand) (a b c : Option Operand) (ty : Nat) (pos : String) (af : Array Edge) (K : St → Prop) (st : St) : stepI X F C ⟨dst, .slice t x a b c, ty, pos, af, none⟩ K st = match pureD X st.m st (.slice t x a b c) with | some d => K (st.put dst d) | none => False := rfl
@[go_sem] theorem step_len (dst : Option Nat) (as : Array Operand) (ts : Array Nat) (ty : Nat) (pos : String) (af : Array Edge) (K : St → Prop) (st : St) : stepI X F C ⟨dst, .call ⟨.builtin .len, as, ts⟩, ty, pos, af, none⟩ K st = match pureD X st.m st (.call ⟨.builtin .len, as, ts⟩) with | some d => K (st.put dst d) | none => False := rfl
@[go_sem] theorem step_min (dst : Option Nat) (as : Array Operand) (ts : Array Nat) (ty : Nat) (pos : String) (af : Array Edge) (K : St → Prop) (st : St) : stepI X F C ⟨dst, .call ⟨.builtin .min, as, ts⟩, ty, pos, af, none⟩ K st = match pureD X st.m st (.call ⟨.builtin .min, as, ts⟩) with | some d => K (st.put dst d) | none => False := rfl
@[go_sem] theorem step_max (dst : Option Nat) (as : Array Operand) (ts : Array Nat) (ty : Nat) (pos : String) (af : Array Edge) (K : St → Prop) (st : St) : stepI X F C ⟨dst, .call ⟨.builtin .max, as, ts⟩, ty, pos, af, none⟩ K st = match pureD X st.m st (.call ⟨.builtin .max, as, ts⟩) with | some d => K (st.put dst d) | none => False := rfl
@[go_sem] theorem step_buildSlice (dst : Option Nat) (t n : Nat) (ps : Array (Nat × Operand)) (ty : Nat) (pos : String) (af : Array Edge) (K : St → Prop) (st : St) : stepI X F C ⟨dst, .buildSlice t n ps, ty, pos, af, none⟩ K st = match rowD X st (.buildSlice t n ps) with | some d => K (st.put dst d) | none => False := rfl
@[go_sem] theorem step_alloc (x t : Nat) (ty : Nat) (pos : String) (af : Array Edge) (K : St → Prop) (st : St) : stepI X F C ⟨some x, .alloc t, ty, pos, af, none⟩ K st =
    match zeroD X.P t with | some z => (match memB F.esc x with
    | true => K ((st.put (some x) (.ptr st.m.boxes.length 0)).setM { st.m with boxes := st.m.boxes ++ [z.cells] })
    | false => K (st.newBox x z.cells)) | none => False := rfl
@[go_sem] theorem step_box (x t : Nat) (v : Operand) (ty : Nat) (pos : String) (af : Array Edge) (K : St → Prop) (st : St) : stepI X F C ⟨some x, .box t v, ty, pos, af, none⟩ K st =
    match szOf X.P t with
    | some n => (match (ev X st v).okC && decide ((ev X st v).cells.length = n) with
      | true => (match memB F.esc x with
        | true => K ((st.put (some x) (.ptr st.m.boxes.length 0)).setM { st.m with boxes := st.m.boxes ++ [(ev X st v).cells] })
        | false => K (st.newBox x (ev X st v).cells))
      | false => False)
    | none => False := rfl
@[go_sem] theorem step_store (t x : Nat) (v : Operand) (ty : Nat) (pos : String) (af : Array Edge) (K : St → Prop) (sl lp bx) (m : Mem) : stepI X F C ⟨none, .store t (.tmp x) v, ty, pos, af, none⟩ K ⟨sl, lp, bx, m⟩ =
    match lp x with
    | some (key, off) => (match bx key, szOf X.P t with
      | some cs, some n => (match (ev X ⟨sl, lp, bx, m⟩ v).okC && decide ((ev X ⟨sl, lp, bx, m⟩ v).cells.length = n) && decide (off + n ≤ cs.length) with
        | true => K ⟨sl, lp, upd bx key (some (setRow cs off (ev X ⟨sl, lp, bx, m⟩ v).cells)), m⟩
        | false => False)
      | _, _ => False)
    | none => (match sl x with
      | .ptr id off => (match m.boxes[id]?, szOf X.P t with
        | some cs, some n => (match (ev X ⟨sl, lp, bx, m⟩ v).okC && decide ((ev X ⟨sl, lp, bx, m⟩ v).cells.length = n) && decide (off + n ≤ cs.length) with
          | true => K ⟨sl, lp, bx, { m with boxes := m.boxes.set id (setRow cs off (ev X ⟨sl, lp, bx, m⟩ v).cells) }⟩
          | false => False)
        | _, _ => False)
      | _ => False) := rfl
attribute [go_sem] ite_true ite_false if_true if_false List.getElem?_cons_zero List.getElem?_cons_succ List.drop_succ_cons List.drop_zero List.take_succ_cons List.take_zero List.length_cons List.length_nil decide_true decide_false cond_true cond_false Bool.and_true Bool.true_and Bool.not_true Bool.not_false List.set_cons_zero List.set_cons_succ List.nil_append List.cons_append List.append_nil List.map_cons List.map_nil Option.bind_some Option.map_some
@[go_sem] theorem eqB_true (b : Bool) : eqB true b = b := rfl
@[go_sem] theorem eqB_false (b : Bool) : eqB false b = !b := by cases b <;> rfl
@[go_sem] theorem step_nilCheck (dst : Option Nat) (p : Operand) (ty : Nat) (pos : String) (af : Array Edge) (K : St → Prop) (st : St) : stepI X F C ⟨dst, .nilCheck p, ty, pos, af, none⟩ K st =
    match regOf st p with
    | some (key, off) => (match dst with
      | some x => K (st.putL x key off)
      | none => K st)
    | none => (match pureD X st.m st (.nilCheck p) with | some d => K (st.put dst d) | none => False) := rfl
@[go_sem] theorem step_fieldAddr (x t i : Nat) (p : Operand) (ty : Nat) (pos : String) (af : Array Edge) (K : St → Prop) (st : St) : stepI X F C ⟨some x, .fieldAddr t p i, ty, pos, af, none⟩ K st =
    match regOf st p with
    | some (key, off) => (match fieldOff X.P t i with
      | some n => K (st.putL x key (off + n))
      | none => False)
    | none => (match pureD X st.m st (.fieldAddr t p i) with | some d => K (st.put (some x) d) | none => False) := by
  show (match regOf st p with
    | some (key, off) => match fieldOff X.P t i, some x with
      | some n, some x => K (st.putL x key (off + n))
      | _, _ => False
    | none => pureK X _ K st) = _
  cases regOf st p with
  | none => rfl
  | some a => cases fieldOff X.P t i <;> rfl
@[go_sem] theorem regOf_tmp (sl lp bx) (m : Mem) (x : Nat) : regOf ⟨sl, lp, bx, m⟩ (.tmp x) = lp x := rfl
@[go_sem] theorem regOf_global (st : St) (g : Nat) : regOf st (.global g) = none := rfl
@[go_sem] theorem guardI_eq (all : List Oper) (sl lp bx) (m : Mem) (j : Nat) : guardI all ⟨sl, lp, bx, m⟩ j = match dstFrom all 0 j with
  | some x => guardV (sl x)
  | none => none := rfl
@[go_sem] theorem guardV_bool (b : Bool) : guardV (.bool b) = some (some b) := rfl
@[go_sem] theorem guardV_skip : guardV (.tuple []) = some none := rfl
@[go_sem] theorem dstFrom_cons (o : Oper) (r : List Oper) (i j : Nat) : dstFrom (o :: r) i j = if i = j then o.dst else dstFrom r (i + 1) j := rfl
@[go_sem] theorem resOne_tmp (sl lp bx) (m : Mem) (t : Nat) : resOne X ⟨sl, lp, bx, m⟩ (.tmp t) = some (sl t) := rfl
@[go_sem] theorem resOne_cell (sl lp bx) (m : Mem) (p t : Nat) : resOne X ⟨sl, lp, bx, m⟩ (.cell p t) = match place X m ⟨sl, lp, bx, m⟩ (.tmp p) with | some (cs, off) => takeD X.P t cs off | none => none := rfl
@[go_sem] theorem resL_nil (st : St) : resL X st [] = some [] := rfl
@[go_sem] theorem resL_cons (st : St) (r : ResultVar) (rs : List ResultVar) : resL X st (r :: rs) = match resOne X st r, resL X st rs with | some d, some ds => some (d :: ds) | _, _ => none := rfl
@[go_sem] theorem resD_eq (st : St) (rs : List ResultVar) : resD X rs st = match resL X st rs with | some [d] => some d | some ds => some (.tuple ds) | none => none := rfl
@[go_sem] theorem endP_ret (rs : List ResultVar) (Q : D → Mem → Prop) (st : St) : endP X rs Q .ret st = match resD X rs st with | some r => Q r st.m | none => False := rfl
@[go_sem] theorem endP_normal (rs : List ResultVar) (Q : D → Mem → Prop) (st : St) : endP X rs Q .normal st = match resD X rs st with | some r => Q r st.m | none => False := rfl
@[go_sem] theorem numbered_nil (i : Nat) : numbered [] i = [] := rfl
@[go_sem] theorem numbered_cons (d : D) (r : List D) (i : Nat) : numbered (d :: r) i = (i, d) :: numbered r (i + 1) := rfl
@[go_sem] theorem entry_eq (ds : List D) (m : Mem) : entry ds m = ⟨slL (numbered ds 0), opL [], opL [], m⟩ := rfl
-- regions whose order is open
@[go_sem] theorem wpOpsN_nil (m0 : Mem) (all : List Oper) (K : St → Prop) (st : St) : wpOpsN X F C m0 all [] K st = K st := rfl
@[go_sem] theorem wpOpsN_cons (m0 : Mem) (all : List Oper) (o : Oper) (r : List Oper) (K : St → Prop) (st : St) : wpOpsN X F C m0 all (o :: r) K st = opN X F C m0 all o (wpOpsN X F C m0 all r K) st := rfl
@[go_sem] theorem opN_plain (m0 : Mem) (all : List Oper) (dst : Option Nat) (op : Op) (ty : Nat) (pos : String) (af : Array Edge) (K : St → Prop) (st : St) :
    opN X F C m0 all ⟨dst, op, ty, pos, af, none⟩ K st = stepN X F C m0 ⟨dst, op, ty, pos, af, none⟩ K st := rfl
theorem opN_guard (m0 : Mem) (all : List Oper) (dst : Option Nat) (op : Op) (ty : Nat) (pos : String) (af : Array Edge) (j : Nat) (want : Bool) (K : St → Prop) (st : St) :
    opN X F C m0 all ⟨dst, op, ty, pos, af, some (j, want)⟩ K st = match guardI all st j with
    | some (some b) => (match eqB want b with
      | true => stepN X F C m0 ⟨dst, op, ty, pos, af, none⟩ K st
      | false => K (st.put dst (.tuple [])))
    | some none => K (st.put dst (.tuple []))
    | none => False := rfl
@[go_sem] theorem opN_go (m0 : Mem) (all : List Oper) (dst : Option Nat) (op : Op) (ty : Nat) (pos : String) (af : Array Edge) (j : Nat) (want : Bool) (K : St → Prop) (st : St) (h : goB want (guardI all st j) = true) :
    opN X F C m0 all ⟨dst, op, ty, pos, af, some (j, want)⟩ K st = stepN X F C m0 ⟨dst, op, ty, pos, af, none⟩ K st := by
  rw [opN_guard]; revert h
  rcases guardI all st j with _ | _ | b
  · intro h; cases h
  · intro h; cases h
  · intro h; have h : eqB want b = true := h; simp only [h]
@[go_sem] theorem opN_sk (m0 : Mem) (all : List Oper) (dst : Option Nat) (op : Op) (ty : Nat) (pos : String) (af : Array Edge) (j : Nat) (want : Bool) (K : St → Prop) (st : St) (h : skB want (guardI all st j) = true) :
    opN X F C m0 all ⟨dst, op, ty, pos, af, some (j, want)⟩ K st = K (st.put dst (.tuple [])) := by
  rw [opN_guard]; revert h
  rcases guardI all st j with _ | _ | b
  · intro h; cases h
  · intro _; rfl
  · intro h; have h : (!eqB want b) = true := h; simp only [Bool.not_eq_true'] at h; simp only [h]
@[go_sem] theorem stepN_move (m0 : Mem) (dst : Option Nat) (x : Operand) (ty : Nat) (pos : String) (af : Array Edge) (K : St → Prop) (st : St) : stepN X F C m0 ⟨dst, .move x, ty, pos, af, none⟩ K st = match pureD X m0 st (.move x) with | some d => K (st.put dst d) | none => False := rfl
@[go_sem] theorem stepN_assign (m0 : Mem) (dst : Option Nat) (x : Operand) (ty : Nat) (pos : String) (af : Array Edge) (K : St → Prop) (st : St) : stepN X F C m0 ⟨dst, .assign x, ty, pos, af, none⟩ K st = match pureD X m0 st (.assign x) with | some d => K (st.put dst d) | none => False := rfl
@[go_sem] theorem stepN_pick (m0 : Mem) (dst : Option Nat) (c a b : Operand) (ty : Nat) (pos : String) (af : Array Edge) (K : St → Prop) (st : St) : stepN X F C m0 ⟨dst, .pick c a b, ty, pos, af, none⟩ K st = match pureD X m0 st (.pick c a b) with | some d => K (st.put dst d) | none => False := rfl
@[go_sem] theorem stepN_load (m0 : Mem) (dst : Option Nat) (t : Nat) (p : Operand) (ty : Nat) (pos : String) (af : Array Edge) (K : St → Prop) (st : St) : stepN X F C m0 ⟨dst, .load t p, ty, pos, af, none⟩ K st = match locOk F st p with
    | true => (match pureD X m0 st (.load t p) with | some d => K (st.put dst d) | none => False)
    | false => False := rfl
@[go_sem] theorem stepN_binOp (m0 : Mem) (dst : Option Nat) (op : BinOp) (t u : Nat) (x y : Operand) (ty : Nat) (pos : String) (af : Array Edge) (K : St → Prop) (st : St) : stepN X F C m0 ⟨dst, .binOp op t x y u, ty, pos, af, none⟩ K st = match pureD X m0 st (.binOp op t x y u) with | some d => K (st.put dst d) | none => False := rfl
@[go_sem] theorem stepN_unOp (m0 : Mem) (dst : Option Nat) (op : UnOp) (t : Nat) (x : Operand) (ty : Nat) (pos : String) (af : Array Edge) (K : St → Prop) (st : St) : stepN X F C m0 ⟨dst, .unOp op t x, ty, pos, af, none⟩ K st = match pureD X m0 st (.unOp op t x) with | some d => K (st.put dst d) | none => False := rfl
@[go_sem] theorem stepN_makeFunc (m0 : Mem) (dst : Option Nat) (f : Fn) (a b : Array Operand) (ty : Nat) (pos : String) (af : Array Edge) (K : St → Prop) (st : St) : stepN X F C m0 ⟨dst, .makeFunc f a b, ty, pos, af, none⟩ K st = match pureD X m0 st (.makeFunc f a b) with | some d => K (st.put dst d) | none => False := rfl
@[go_sem] theorem stepN_field (m0 : Mem) (dst : Option Nat) (t : Nat) (x : Operand) (i : Nat) (ty : Nat) (pos : String) (af : Array Edge) (K : St → Prop) (st : St) : stepN X F C m0 ⟨dst, .field t x i, ty, pos, af, none⟩ K st = match pureD X m0 st (.field t x i) with | some d => K (st.put dst d) | none => False := rfl
@[go_sem] theorem stepN_build (m0 : Mem) (dst : Option Nat) (t : Nat) (ps : Array (Nat × Operand)) (ty : Nat) (pos : String) (af : Array Edge) (K : St → Prop) (st : St) : stepN X F C m0 ⟨dst, .build t ps, ty, pos, af, none⟩ K st = match pureD X m0 st (.build t ps) with | some d => K (st.put dst d) | none => False := rfl
@[go_sem] theorem stepN_indexAddr (m0 : Mem) (dst : Option Nat) (t : Nat) (x i : Operand) (ty : Nat) (pos : String) (af : Array Edge) (K : St → Prop) (st : St) : stepN X F C m0 ⟨dst, .indexAddr t x i, ty, pos, af, none⟩ K st = match pureD X m0 st (.indexAddr t x i) with | some d => K (st.put dst d) | none => False := rfl
@[go_sem] theorem stepN_index (m0 : Mem) (dst : Option Nat) (t : Nat) (x i : Operand) (ty : Nat) (pos : String) (af : Array Edge) (K : St → Prop) (st : St) : stepN X F C m0 ⟨dst, .index t x i, ty, pos, af, none⟩ K st = match pureD X m0 st (.index t x i) with | some d => K (st.put dst d) | none => False := rfl
@[go_sem] theorem stepN_extract (m0 : Mem) (dst : Option Nat) (x : Operand) (i : Nat) (ty : Nat) (pos : String) (af : Array Edge) (K : St → Prop) (st : St) : stepN X F C m0 ⟨dst, .extract x i, ty, pos, af, none⟩ K st = match pureD X m0 st (.extract x i) with | some d => K (st.put dst d) | none => False := rfl
@[go_sem] theorem stepN_slice (m0 : Mem) (dst : Option Nat) (t : Nat) (x : Operand) (a b c : Option Operand) (ty : Nat) (pos : String) (af : Array Edge) (K : St → Prop) (st : St) : stepN X F C m0 ⟨dst, .slice t x a b c, ty, pos, af, none⟩ K st = match pureD X m0 st (.slice t x a b c) with | some d => K (st.put dst d) | none => False := rfl
@[go_sem] theorem stepN_len (m0 : Mem) (dst : Option Nat) (as : Array Operand) (ts : Array Nat) (ty : Nat) (pos : String) (af : Array Edge) (K : St → Prop) (st : St) : stepN X F C m0 ⟨dst, .call ⟨.builtin .len, as, ts⟩, ty, pos, af, none⟩ K st = match pureD X m0 st (.call ⟨.builtin .len, as, ts⟩) with | some d => K (st.put dst d) | none => False := rfl
@[go_sem] theorem stepN_min (m0 : Mem) (dst : Option Nat) (as : Array Operand) (ts : Array Nat) (ty : Nat) (pos : String) (af : Array Edge) (K : St → Prop) (st : St) : stepN X F C m0 ⟨dst, .call ⟨.builtin .min, as, ts⟩, ty, pos, af, none⟩ K st = match pureD X m0 st (.call ⟨.builtin .min, as, ts⟩) with | some d => K (st.put dst d) | none => False := rfl
@[go_sem] theorem stepN_max (m0 : Mem) (dst : Option Nat) (as : Array Operand) (ts : Array Nat) (ty : Nat) (pos : String) (af : Array Edge) (K : St → Prop) (st : St) : stepN X F C m0 ⟨dst, .call ⟨.builtin .max, as, ts⟩, ty, pos, af, none⟩ K st = match pureD X m0 st (.call ⟨.builtin .max, as, ts⟩) with | some d => K (st.put dst d) | none => False := rfl
@[go_sem] theorem stepN_buildSlice (m0 : Mem) (dst : Option Nat) (t n : Nat) (ps : Array (Nat × Operand)) (ty : Nat) (pos : String) (af : Array Edge) (K : St → Prop) (st : St) : stepN X F C m0 ⟨dst, .buildSlice t n ps, ty, pos, af, none⟩ K st = match rowD X st (.buildSlice t n ps) with | some d => K (st.put dst d) | none => False := rfl
@[go_sem] theorem stepN_store (m0 : Mem) (t : Nat) (p v : Operand) (ty : Nat) (pos : String) (af : Array Edge) (K : St → Prop) (sl lp bx) (m : Mem) : stepN X F C m0 ⟨none, .store t p v, ty, pos, af, none⟩ K ⟨sl, lp, bx, m⟩ =
    match locOk F ⟨sl, lp, bx, m⟩ p with
    | true => (match regOf ⟨sl, lp, bx, m⟩ p with
      | some (key, off) => (match bx key, szOf X.P t with
        | some cs, some n => (match (ev X ⟨sl, lp, bx, m⟩ v).okC && decide ((ev X ⟨sl, lp, bx, m⟩ v).cells.length = n) && decide (off + n ≤ cs.length) with
          | true => K ⟨sl, lp, upd bx key (some (setRow cs off (ev X ⟨sl, lp, bx, m⟩ v).cells)), m⟩
          | false => False)
        | _, _ => False)
      | none => (match ev X ⟨sl, lp, bx, m⟩ p with
        | .ptr id off => (match m.boxes[id]?, szOf X.P t with
          | some cs, some n => (match (ev X ⟨sl, lp, bx, m⟩ v).okC && decide ((ev X ⟨sl, lp, bx, m⟩ v).cells.length = n) && decide (off + n ≤ cs.length) with
            | true => K ⟨sl, lp, bx, { m with boxes := m.boxes.set id (setRow cs off (ev X ⟨sl, lp, bx, m⟩ v).cells) }⟩
            | false => False)
          | _, _ => False)
        | _ => False))
    | false => False := rfl
@[go_sem] theorem stepN_nilCheck (m0 : Mem) (dst : Option Nat) (p : Operand) (ty : Nat) (pos : String) (af : Array Edge) (K : St → Prop) (st : St) : stepN X F C m0 ⟨dst, .nilCheck p, ty, pos, af, none⟩ K st =
    match regOf st p with
    | some (key, off) => (match dst with
      | some x => K (st.putL x key off)
      | none => K st)
    | none => (match pureD X m0 st (.nilCheck p) with | some d => K (st.put dst d) | none => False) := rfl
@[go_sem] theorem stepN_fieldAddr (m0 : Mem) (x t i : Nat) (p : Operand) (ty : Nat) (pos : String) (af : Array Edge) (K : St → Prop) (st : St) : stepN X F C m0 ⟨some x, .fieldAddr t p i, ty, pos, af, none⟩ K st =
    match regOf st p with
    | some (key, off) => (match fieldOff X.P t i with
      | some n => K (st.putL x key (off + n))
      | none => False)
    | none => (match pureD X m0 st (.fieldAddr t p i) with | some d => K (st.put (some x) d) | none => False) := by
  show (match regOf st p with
    | some (key, off) => match fieldOff X.P t i, some x with
      | some n, some x => K (st.putL x key (off + n))
      | _, _ => False
    | none => pureN X m0 _ K st) = _
  cases regOf st p with
  | none => rfl
  | some a => cases fieldOff X.P t i <;> rfl
-- slices, by functions of their own
def idxA (P : Program) (t : Nat) (a i : D) : Option D := match a, i with
    | .slice _ k es, .int _ n => match sliceSz P t with
      | some k' => bif decide (k' = k) then (match atI es n with
        | some d => some (.ref d.cells 0)
        | none => none) else none
      | none => none
    | .rsl id off len k, .int _ n => match sliceSz P t with
      | some k' => bif decide (k' = k) && decide (0 ≤ n) && decide (n < len) then some (.ptr id (off + n.toNat * k)) else none
      | none => none
    | .ref cs off, .int _ n => match arrElem P t with
      | some (len, e) => match szOf P e with
        | some k => bif decide (0 ≤ n) && decide (n < len) then some (.ref cs (off + n.toNat * k)) else none
        | none => none
      | none => none
    | _, _ => none
@[go_sem] theorem pure_indexAddr (t : Nat) (x i : Operand) : pureD X m st (.indexAddr t x i) = idxA X.P t (ev X st x) (ev X st i) := by
  simp only [pureD]; unfold idxA; generalize ev X st x = a; generalize ev X st i = b
  cases a <;> first | rfl | (cases b <;> rfl)
@[go_sem] theorem idxA_slice (P : Program) (t : Nat) (g : Option Nat) (k : Nat) (es : List D) (kk : IntKind) (n : Int) : idxA P t (.slice g k es) (.int kk n) = match sliceSz P t with
      | some k' => bif decide (k' = k) then (match atI es n with
        | some d => some (.ref d.cells 0)
        | none => none) else none
      | none => none := rfl
@[go_sem] theorem idxA_rsl (P : Program) (t : Nat) (id off len k : Nat) (kk : IntKind) (n : Int) : idxA P t (.rsl id off len k) (.int kk n) = match sliceSz P t with
      | some k' => bif decide (k' = k) && decide (0 ≤ n) && decide (n < len) then some (.ptr id (off + n.toNat * k)) else none
      | none => none := rfl
@[go_sem] theorem idxA_ref (P : Program) (t : Nat) (cs : List D) (off : Nat) (kk : IntKind) (n : Int) : idxA P t (.ref cs off) (.int kk n) = match arrElem P t with
      | some (len, e) => match szOf P e with
        | some k => bif decide (0 ≤ n) && decide (n < len) then some (.ref cs (off + n.toNat * k)) else none
        | none => none
      | none => none := rfl
/-- x[l:h] -/
def slcI (P : Program) (t : Nat) (a : D) (l : Option Int) (h : Int → Option Int) : Option D := match a with
    | .str s => match isStr P t, l, h s.length with
      | true, some l, some h => sliceStr s l h
      | _, _, _ => none
    | .slice _ k es => match sliceSz P t, l, h es.length with
      | some k', some l, some h => bif decide (k' = k) then sliceSl k es l h else none
      | _, _, _ => none
    | .rsl id off len k => match sliceSz P t, l, h len with
      | some k', some l, some h => bif decide (k' = k) then sliceR id off len k l h else none
      | _, _, _ => none
    | .nil => match sliceSz P t, l, h 0 with
      | some _, some l, some h => bif decide (l = 0) && decide (h = 0) then some .nil else none
      | _, _, _ => none
    | _ => none
@[go_sem] theorem pure_slice (t : Nat) (x : Operand) (low high : Option Operand) : pureD X m st (.slice t x low high none) = slcI X.P t (ev X st x) (optI X st (some 0) low) (fun z => optI X st (some z) high) := by
  simp only [pureD]; unfold slcI; generalize ev X st x = a
  cases a <;> rfl
@[go_sem] theorem slcI_str (P : Program) (t : Nat) (s : List UInt8) (l : Option Int) (h : Int → Option Int) : slcI P t (.str s) l h = match isStr P t, l, h s.length with
      | true, some l, some h => sliceStr s l h
      | _, _, _ => none := rfl
@[go_sem] theorem slcI_slice (P : Program) (t : Nat) (g : Option Nat) (k : Nat) (es : List D) (l : Option Int) (h : Int → Option Int) : slcI P t (.slice g k es) l h = match sliceSz P t, l, h es.length with
      | some k', some l, some h => bif decide (k' = k) then sliceSl k es l h else none
      | _, _, _ => none := rfl
@[go_sem] theorem pure_slice3 (t : Nat) (x h k : Operand) : pureD X m st (.slice t x none (some h) (some k)) = match ev X st x with
    | .slice _ _ _ => (match sliceSz X.P t with
      | some kk => bif isZero (ev X st h) && isZero (ev X st k) then some (.slice (some 0) kk []) else none
      | none => none)
    | .rsl _ _ _ _ => (match sliceSz X.P t with
      | some kk => bif isZero (ev X st h) && isZero (ev X st k) then some (.slice (some 0) kk []) else none
      | none => none)
    | .nil => (match sliceSz X.P t with
      | some _ => bif isZero (ev X st h) && isZero (ev X st k) then some .nil else none
      | none => none)
    | _ => none := rfl
@[go_sem] theorem lenT_slice (P : Program) (u : Nat) (t : Option Nat) (k : Nat) (es : List D) : lenT P u (.slice t k es) = match sliceElem P u with | some _ => some es.length | none => none := rfl
@[go_sem] theorem lenT_rsl (P : Program) (u a b n k : Nat) : lenT P u (.rsl a b n k) = match sliceElem P u with | some _ => some n | none => none := rfl
@[go_sem] theorem lenT_nil (P : Program) (u : Nat) : lenT P u .nil = match sliceElem P u with | some _ => some 0 | none => none := rfl
@[go_sem] theorem lenT_str (P : Program) (u : Nat) (s : List UInt8) : lenT P u (.str s) = match isStr P u with | true => some s.length | false => none := rfl
@[go_sem] theorem pure_convert (s d : Nat) (x : Operand) : pureD X m st (.convert s d x) = match bytesTy X.P s && isStr X.P d with
    | true => strOf m (ev X st x)
    | false => (match intTy X.P s, intTy X.P d, ev X st x with
      | some _, some k, .int _ n => some (.int k (k.wrap n))
      | _, _, _ => none) := rfl
@[go_sem] theorem pure_binOp (op : BinOp) (t u : Nat) (x y : Operand) : pureD X m st (.binOp op t x y u) = binD X.P t op (ev X st x) (ev X st y) := rfl
@[go_sem] theorem bin_lss (P : Program) (t : Nat) (k : IntKind) (a b : Int) : binD P t .lss (.int k a) (.int k b) = some (.bool (decide (a < b))) := by simp [binD, binI]
@[go_sem] theorem bin_leq (P : Program) (t : Nat) (k : IntKind) (a b : Int) : binD P t .leq (.int k a) (.int k b) = some (.bool (decide (a ≤ b))) := by simp [binD, binI]
@[go_sem] theorem bin_gtr (P : Program) (t : Nat) (k : IntKind) (a b : Int) : binD P t .gtr (.int k a) (.int k b) = some (.bool (decide (b < a))) := by simp [binD, binI]
@[go_sem] theorem bin_geq (P : Program) (t : Nat) (k : IntKind) (a b : Int) : binD P t .geq (.int k a) (.int k b) = some (.bool (decide (b ≤ a))) := by simp [binD, binI]
@[go_sem] theorem bin_eql (P : Program) (t : Nat) (k : IntKind) (a b : Int) : binD P t .eql (.int k a) (.int k b) = some (.bool (a == b)) := by simp [binD, binI]
@[go_sem] theorem bin_neq (P : Program) (t : Nat) (k : IntKind) (a b : Int) : binD P t .neq (.int k a) (.int k b) = some (.bool (a != b)) := by simp [binD, binI]
@[go_sem] theorem bin_add (P : Program) (t : Nat) (k : IntKind) (a b : Int) : binD P t .add (.int k a) (.int k b) = some (.int k (k.wrap (a + b))) := by simp [binD, binI]
@[go_sem] theorem bin_sub (P : Program) (t : Nat) (k : IntKind) (a b : Int) : binD P t .sub (.int k a) (.int k b) = some (.int k (k.wrap (a - b))) := by simp [binD, binI]
@[go_sem] theorem bin_mul (P : Program) (t : Nat) (k : IntKind) (a b : Int) : binD P t .mul (.int k a) (.int k b) = some (.int k (k.wrap (a * b))) := by simp [binD, binI]
@[go_sem] theorem bin_quo (P : Program) (t : Nat) (k : IntKind) (a b : Int) : binD P t .quo (.int k a) (.int k b) = bif b == 0 then none else some (.int k (k.wrap (a.tdiv b))) := by simp [binD, binI]
@[go_sem] theorem bin_str_eql (P : Program) (t : Nat) (a b : List UInt8) : binD P t .eql (.str a) (.str b) = some (.bool (a == b)) := rfl
@[go_sem] theorem bin_str_neq (P : Program) (t : Nat) (a b : List UInt8) : binD P t .neq (.str a) (.str b) = some (.bool (!(a == b))) := rfl
@[go_sem] theorem bin_str_add (P : Program) (t : Nat) (a b : List UInt8) : binD P t .add (.str a) (.str b) = bif decide (a.length + b.length ≤ 140737488355328) then some (.str (a ++ b)) else none := rfl
@[go_sem] theorem pure_build (t : Nat) (l : List (Nat × Operand)) : pureD X m st (.build t l.toArray) = match isStruct X.P t, zeroD X.P t with
    | true, some (.agg z) => (match fillS X.P t z (partsD X st l) with | some cs => some (.agg cs) | none => none)
    | false, some (.agg z) => (match arrElem X.P t with
      | some (_, e) => (match szOf X.P e with
        | some k => (match fillC k z (partsD X st l) with | some cs => some (.agg cs) | none => none)
        | none => none)
      | none => none)
    | _, _ => none := rfl
@[go_sem] theorem fillC_nil (k : Nat) (cs : List D) : fillC k cs [] = some cs := rfl
@[go_sem] theorem fillC_cons (k : Nat) (cs : List D) (i : Nat) (d : D) (r : List (Nat × D)) : fillC k cs ((i, d) :: r) = bif d.okC && decide (d.cells.length = k) && decide (i * k + k ≤ cs.length) then fillC k (setRow cs (i * k) d.cells) r else none := rfl
-- makers
@[go_sem] theorem make_append (bx : Bool) (s x : Operand) (t u : Nat) : makeD X bx m st (.call { callee := .builtin .append, args := #[s, x], argTypes := #[t, u] }) = match sliceElem X.P t, sliceSz X.P t, sliceSz X.P u with
      | some e, some k, some k' => match bytesOk X.P e, zeroOk X.P e k, elemsOf m k (ev X st x), elemsOf m k (ev X st s) with
        | true, true, some xs, some es => bif decide (k' = k) && decide (es.length + xs.length ≤ 16777216) then (match bx with | true => appendB k m (ev X st s) es xs | false => appendD k m (ev X st s) xs) else none
        | _, _, _, _ => none
      | _, _, _ => none := rfl
@[go_sem] theorem row_buildSlice (t len : Nat) (l : List (Nat × Operand)) : rowD X st (.buildSlice t len l.toArray) = match sliceElem X.P t with
    | some e => match szOf X.P e, bytesOk X.P e, zeroD X.P e with
      | some k, true, some z => bif z.okC && decide (z.cells.length = k) && decide (len * k ≤ 16777216) then (match fillA (List.replicate len z) k (partsD X st l) with
        | some es => some (.slice (some 0) k es)
        | none => none) else none
      | _, _, _ => none
    | none => none := rfl
@[go_sem] theorem elems_slice (m : Mem) (k : Nat) (t : Option Nat) (k' : Nat) (es : List D) : elemsOf m k (.slice t k' es) = bif decide (k' = k) then some es else none := rfl
@[go_sem] theorem elems_nil (m : Mem) (k : Nat) : elemsOf m k .nil = some [] := rfl
@[go_sem] theorem elems_rsl (m : Mem) (k id off len k' : Nat) : elemsOf m k (.rsl id off len k') = bif decide (k' = k) then elemsR m id off len k else none := rfl
@[go_sem] theorem mkB_some (x : Nat) : mkB F (some x) = memB F.mks x := rfl
@[go_sem] theorem okC_opq  : (D.opq).okC = true := rfl
@[go_sem] theorem okC_rsl (a b c d : Nat) : (D.rsl a b c d).okC = true := rfl
@[go_sem] theorem cells_rsl (a b c d : Nat) : (D.rsl a b c d).cells = [.rsl a b c d] := rfl
-- without rights
section
variable {f : Nat → Nat → Nat → Nat → D}
@[go_sem] theorem strip_def (d : D) : strip d = stripF noR d := rfl
@[go_sem] theorem stripL_def (l : List D) : stripL l = stripFL noR l := rfl
@[go_sem] theorem frz_def (m : Mem) (d : D) : frz m d = stripF (frzM m m.boxes.length) d := rfl
@[go_sem] theorem stripF_int (k : IntKind) (n : Int) : stripF f (.int k n) = .int k n := rfl
@[go_sem] theorem stripF_bool (b : Bool) : stripF f (.bool b) = .bool b := rfl
@[go_sem] theorem stripF_str (s : List UInt8) : stripF f (.str s) = .str s := rfl
@[go_sem] theorem stripF_slice (t : Option Nat) (k : Nat) (es : List D) : stripF f (.slice t k es) = .slice none k (stripFL f es) := rfl
@[go_sem] theorem stripF_rsl (a b c d : Nat) : stripF f (.rsl a b c d) = f a b c d := rfl
@[go_sem] theorem stripF_nil : stripF f .nil = .nil := rfl
@[go_sem] theorem stripF_agg (cs : List D) : stripF f (.agg cs) = .agg (stripFL f cs) := rfl
@[go_sem] theorem stripF_tuple (cs : List D) : stripF f (.tuple cs) = .tuple (stripFL f cs) := rfl
@[go_sem] theorem stripF_ref (cs : List D) (o : Nat) : stripF f (.ref cs o) = .ref (stripFL f cs) o := rfl
@[go_sem] theorem stripF_ptr (a b : Nat) : stripF f (.ptr a b) = .opq := rfl
@[go_sem] theorem stripF_func (g : Nat) (cs : List D) : stripF f (.func g cs) = .func g (stripFL f cs) := rfl
@[go_sem] theorem stripFL_nil : stripFL f [] = [] := rfl
@[go_sem] theorem stripFL_cons (d : D) (r : List D) : stripFL f (d :: r) = stripF f d :: stripFL f r := rfl
end
-- steps
@[go_sem] theorem step_convert (dst : Option Nat) (a b : Nat) (x : Operand) (ty : Nat) (pos : String) (af : Array Edge) (K : St → Prop) (st : St) : stepI X F C ⟨dst, .convert a b x, ty, pos, af, none⟩ K st = match isStr X.P a && bytesTy X.P b with
    | true => makeK X F ⟨dst, .convert a b x, ty, pos, af, none⟩ K st
    | false => (match pureD X st.m st (.convert a b x) with | some d => K (st.put dst d) | none => False) := rfl
@[go_sem] theorem stepN_convert (m0 : Mem) (dst : Option Nat) (a b : Nat) (x : Operand) (ty : Nat) (pos : String) (af : Array Edge) (K : St → Prop) (st : St) : stepN X F C m0 ⟨dst, .convert a b x, ty, pos, af, none⟩ K st = match isStr X.P a && bytesTy X.P b with
    | true => makeK X F ⟨dst, .convert a b x, ty, pos, af, none⟩ K st
    | false => (match pureD X m0 st (.convert a b x) with | some d => K (st.put dst d) | none => False) := rfl
@[go_sem] theorem makeK_eq (o : Oper) (K : St → Prop) (st : St) : makeK X F o K st = match makeD X (mkB F o.dst) st.m st o.op with | some (d, m) => K ((st.put o.dst d).setM m) | none => False := rfl
@[go_sem] theorem step_makeFunc (dst : Option Nat) (f : Fn) (a : Array Operand) (b : List Operand) (ty : Nat) (pos : String) (af : Array Edge) (K : St → Prop) (st : St) : stepI X F C ⟨dst, .makeFunc f a b.toArray, ty, pos, af, none⟩ K st = match pureD X (promoteL st b).m (promoteL st b) (.makeFunc f a b.toArray) with | some d => K ((promoteL st b).put dst d) | none => False := rfl
@[go_sem] theorem promoteL_nil (st : St) : promoteL st [] = st := rfl
@[go_sem] theorem promoteL_cons (st : St) (x : Operand) (r : List Operand) : promoteL st (x :: r) = promoteL (promote1 st (regOf st x)) r := rfl
@[go_sem] theorem promote1_some (st : St) (k o : Nat) : promote1 st (some (k, o)) = promote st k := rfl
@[go_sem] theorem promote1_none (st : St) : promote1 st none = st := rfl
@[go_sem] theorem promote_eq (sl lp bx) (m : Mem) (k : Nat) : promote ⟨sl, lp, bx, m⟩ k = match bx k with
  | some cs => ⟨prS sl lp k m.boxes.length, dropKey k lp, upd bx k none, { m with boxes := m.boxes ++ [cs] }⟩
  | none => ⟨sl, lp, bx, m⟩ := rfl
@[go_sem] theorem prS_at (sl : Nat → D) (lp : Nat → Option (Nat × Nat)) (k id y : Nat) : prS sl lp k id y = match lp y with
  | some (k', o) => if k' = k then .ptr id o else sl y
  | none => sl y := rfl
@[go_sem] theorem step_append (dst : Option Nat) (as : Array Operand) (ts : Array Nat) (ty : Nat) (pos : String) (af : Array Edge) (K : St → Prop) (st : St) : stepI X F C ⟨dst, .call ⟨.builtin .append, as, ts⟩, ty, pos, af, none⟩ K st = match makeD X (mkB F dst) st.m st (.call ⟨.builtin .append, as, ts⟩) with | some (d, m) => K ((st.put dst d).setM m) | none => False := rfl
@[go_sem] theorem stepN_append (m0 : Mem) (dst : Option Nat) (as : Array Operand) (ts : Array Nat) (ty : Nat) (pos : String) (af : Array Edge) (K : St → Prop) (st : St) : stepN X F C m0 ⟨dst, .call ⟨.builtin .append, as, ts⟩, ty, pos, af, none⟩ K st = match makeD X (mkB F dst) st.m st (.call ⟨.builtin .append, as, ts⟩) with | some (d, m) => K ((st.put dst d).setM m) | none => False := rfl
@[go_sem] theorem step_makeSlice (dst : Option Nat) (t : Nat) (a b : Operand) (ty : Nat) (pos : String) (af : Array Edge) (K : St → Prop) (st : St) : stepI X F C ⟨dst, .makeSlice t a b, ty, pos, af, none⟩ K st = match makeD X (mkB F dst) st.m st (.makeSlice t a b) with | some (d, m) => K ((st.put dst d).setM m) | none => False := rfl
@[go_sem] theorem step_call (dst : Option Nat) (f : Operand) (as : List Operand) (ts : Array Nat) (ty : Nat) (pos : String) (af : Array Edge) (K : St → Prop) (st : St) : stepI X F C ⟨dst, .call ⟨.value f, as.toArray, ts⟩, ty, pos, af, none⟩ K st =
    match ev X st f with
    | .func g cap => (match decide (g < 100000) with
      | true => C.run (ix F dst g) st.m (argsD X st as ++ cap) fun r m => K ((st.put dst r).setM m)
      | false => False)
    | _ => False := rfl
@[go_sem] theorem ix_some (x g : Nat) : ix F (some x) g = match opL F.alt x with | some v => g + v * 100000 | none => g := rfl
@[go_sem] theorem ix_none (g : Nat) : ix F none g = g := rfl
@[go_sem] theorem stepN_call (m0 : Mem) (dst : Option Nat) (f : Operand) (as : List Operand) (ts : Array Nat) (ty : Nat) (pos : String) (af : Array Edge) (K : St → Prop) (st : St) : stepN X F C m0 ⟨dst, .call ⟨.value f, as.toArray, ts⟩, ty, pos, af, none⟩ K st =
    match pureOf C.pf F dst f with
    | some g => (match C.pv g (argsD X st as) with
      | some d => K (st.put dst d)
      | none => False)
    | none => (match ev X st f with
      | .func g cap => (match decide (g < 100000) with
        | true => callN C (ix F dst g) (argsD X st as ++ cap) dst K st
        | false => False)
      | _ => False) := rfl
@[go_sem] theorem pureOf_func (pf : Nat → Bool) (dst : Option Nat) (g : Nat) : pureOf pf F dst (.func g) = match decide (g < 100000) && pf (ix F dst g) with | true => some (ix F dst g) | false => none := rfl
@[go_sem] theorem pureOf_tmp (pf : Nat → Bool) (dst : Option Nat) (x : Nat) : pureOf pf F dst (.tmp x) = none := rfl
@[go_sem] theorem locOk_eq (st : St) (p : Operand) : locOk F st p = eqR F (regOf st p) (locOf F p) := rfl
@[go_sem] theorem locOf_tmp (x : Nat) : locOf F (.tmp x) = match opL F.loc x with
    | some (k, o) => (match memB F.cap k with | true => none | false => some (k, o))
    | none => none := rfl
@[go_sem] theorem locOf_global (g : Nat) : locOf F (.global g) = none := rfl
@[go_sem] theorem eqR_none : eqR F none none = true := rfl
@[go_sem] theorem eqR_some (a b c d : Nat) : eqR F (some (a, b)) (some (c, d)) = (decide (a = c) && decide (b = d)) := rfl
@[go_sem] theorem eqR_cap (a b : Nat) : eqR F (some (a, b)) none = memB F.cap a := rfl
@[go_sem] theorem stepN_alloc (m0 : Mem) (x t : Nat) (ty : Nat) (pos : String) (af : Array Edge) (K : St → Prop) (st : St) : stepN X F C m0 ⟨some x, .alloc t, ty, pos, af, none⟩ K st =
    match zeroD X.P t with
    | some z => (match memB F.esc x with
      | true => K ((st.put (some x) (.ptr st.m.boxes.length 0)).setM { st.m with boxes := st.m.boxes ++ [z.cells] })
      | false => (match st.bx x with
        | none => K (st.newBox x z.cells)
        | some _ => False))
    | none => False := rfl
@[go_sem] theorem stepN_box (m0 : Mem) (x t : Nat) (v : Operand) (ty : Nat) (pos : String) (af : Array Edge) (K : St → Prop) (st : St) : stepN X F C m0 ⟨some x, .box t v, ty, pos, af, none⟩ K st =
    match szOf X.P t with
    | some n => (match (ev X st v).okC && decide ((ev X st v).cells.length = n) with
      | true => (match memB F.esc x with
        | true => K ((st.put (some x) (.ptr st.m.boxes.length 0)).setM { st.m with boxes := st.m.boxes ++ [(ev X st v).cells] })
        | false => (match st.bx x with
          | none => K (st.newBox x (ev X st v).cells)
          | some _ => False))
      | false => False)
    | none => False := rfl
end
end Go.Eng
