/- Part of the engine that proves it: see the last text. -/
import Derived.Test.YtcfmjomniaopcaaDoorKEngU
set_option linter.unusedSimpArgs false
set_option linter.unusedVariables false
/- More equations: strings and rows of bytes. -/
namespace Go.Eng
open Go
variable {X : Ctx} {m : Mem} {st : St}
@[go_sem] theorem make_convert (bx : Bool) (s d : Nat) (x : Operand) : makeD X bx m st (.convert s d x) = match isStr X.P s && bytesTy X.P d, ev X st x with
    | true, .str s => bif decide (s.length ≤ 16777216) then some (.rsl m.boxes.length 0 s.length 1, { m with boxes := m.boxes ++ [s.map byteD] }) else none
    | _, _ => none := rfl
@[go_sem] theorem strOf_rsl (id off len : Nat) : strOf m (.rsl id off len 1) = match m.boxes[id]? with
    | some cs => bif decide (off + len ≤ cs.length) then (match bytesOf ((cs.drop off).take len) with | some l => some (.str l) | none => none) else none
    | none => none := rfl
@[go_sem] theorem strOf_slice (t : Option Nat) (es : List D) : strOf m (.slice t 1 es) = match bytesOf es with | some l => some (.str l) | none => none := rfl
@[go_sem] theorem strOf_nil : strOf m .nil = some (.str []) := rfl
@[go_sem] theorem bin_lss_str (P : Program) (t : Nat) (a b : List UInt8) : binD P t .lss (.str a) (.str b) = some (.bool (Op.bytesLess a b)) := rfl
@[go_sem] theorem bin_shr (P : Program) (t : Nat) (k k' : IntKind) (a b : Int) : binD P t .shr (.int k a) (.int k' b) = bif decide (b < 0) then none else some (.int k (a.fdiv (2 ^ min b.toNat k.bits))) := rfl
attribute [go_sem] sliceStr sliceSl sliceR
@[go_sem] theorem slcI_rsl (P : Program) (t : Nat) (id off len k : Nat) (l : Option Int) (h : Int → Option Int) : slcI P t (.rsl id off len k) l h = match sliceSz P t, l, h len with
      | some k', some l, some h => bif decide (k' = k) then sliceR id off len k l h else none
      | _, _, _ => none := rfl
@[go_sem] theorem slcI_nil (P : Program) (t : Nat) (l : Option Int) (h : Int → Option Int) : slcI P t .nil l h = match sliceSz P t, l, h 0 with
      | some _, some l, some h => bif decide (l = 0) && decide (h = 0) then some .nil else none
      | _, _, _ => none := rfl
/-- The first i. -/
def Sl.take {α : Type} (s : Sl α) (i : Nat) : Sl α := ⟨s.1.map fun l => l.take i, by
  have h := s.2
  cases e : s.1 with
  | none => simp
  | some l => rw [e] at h; simp only [Option.map_some, Option.getD_some] at *; have := List.length_take_le' i l; omega⟩
theorem Sl.take_items {α : Type} (s : Sl α) (i : Nat) : (s.take i).items = s.items.take i := by
  obtain ⟨o, ho⟩ := s; cases o <;> simp [Sl.take, Sl.items]
theorem slcI_sl {α : Type} {P : Program} {t k : Nat} (f : α → D) (s : Sl α) {i : Nat} (hk : sliceSz P t = some k) (hi : i ≤ s.items.length) : slcI P t (sl k f s) (some 0) (fun _ => some (i : Int)) = some (sl k f (s.take i)) := by
  obtain ⟨o, ho⟩ := s
  cases o with
  | none =>
    have : i = 0 := by simpa [Sl.items] using hi
    subst this
    simp only [sl, Sl.take, slcI_nil, Option.map_none, hk]
    rfl
  | some es =>
    have hi : i ≤ es.length := hi
    simp only [sl, Sl.take, slcI_slice, Option.map_some, sliceSl, List.length_map, hk]
    simp [List.map_take, hi]
theorem wrap_u64' (n : Int) : IntKind.u64.wrap n = n % 18446744073709551616 := by simp [IntKind.wrap, IntKind.bits, IntKind.signed]
theorem bytesOf_map : ∀ l : List UInt8, bytesOf (l.map byteD) = some l
  | [] => rfl
  | b :: r => by
    have h : byteOf (byteD b) = some b := by
      show some (UInt8.ofNat (b.toNat : Int).toNat) = some b
      rw [Int.toNat_natCast, UInt8.ofNat_toNat]
    simp only [List.map_cons, bytesOf, h, bytesOf_map r]
attribute [go_sem] Bool.and_self Int.toNat_natCast Nat.mul_one Nat.zero_add
@[go_sem] theorem nn_nat (k : Nat) : (0 ≤ (k : Int)) = True := eq_true (Int.natCast_nonneg k)
end Go.Eng
/- Rows of elements in boxes. -/
namespace Go.Eng
open Go
theorem flat_len {k : Nat} : ∀ {l : List D}, (∀ d ∈ l, d.cells.length = k) → (flat l).length = l.length * k
  | [], _ => by simp [flat]
  | d :: r, h => by
    rw [flat, List.length_append, h d List.mem_cons_self, flat_len (k := k) (l := r) fun x hx => h x (List.mem_cons_of_mem _ hx), List.length_cons, Nat.succ_mul]; omega
theorem flat_cut {k : Nat} : ∀ {l : List D} {i : Nat} {x : D}, (∀ d ∈ l, d.cells.length = k) → l[i]? = some x → ((flat l).drop (i * k)).take k = x.cells
  | d :: r, 0, x, h, g => by
    have g : d = x := by simpa using g
    subst g
    rw [flat, Nat.zero_mul, List.drop_zero, List.take_append_of_le_length (by rw [h d List.mem_cons_self]; exact Nat.le_refl _), List.take_of_length_le (by rw [h d List.mem_cons_self]; exact Nat.le_refl _)]
  | d :: r, i + 1, x, h, g => by
    have hd := h d List.mem_cons_self
    have e : (i + 1) * k = d.cells.length + i * k := by rw [hd, Nat.succ_mul, Nat.add_comm]
    rw [flat, e, List.drop_append, List.drop_eq_nil_of_le (by omega), List.nil_append, show d.cells.length + i * k - d.cells.length = i * k by omega]
    exact flat_cut (fun x hx => h x (List.mem_cons_of_mem _ hx)) (by simpa using g)
theorem setRow_same : ∀ (ds cs : List D) (off : Nat), (cs.drop off).take ds.length = ds → setRow cs off ds = cs
  | [], cs, off, _ => rfl
  | d :: r, cs, off, h => by
    have h0 : cs[off]? = some d := by
      have := congrArg (fun l => l[0]?) h
      simpa [List.getElem?_take, List.getElem?_drop] using this
    have h1 : cs.set off d = cs := by
      obtain ⟨hk, e⟩ := List.getElem?_eq_some_iff.1 h0
      rw [← e]; exact List.set_getElem_self hk
    rw [setRow, h1]
    refine setRow_same r cs (off + 1) ?_
    obtain ⟨hk, e⟩ := List.getElem?_eq_some_iff.1 h0
    rw [List.drop_eq_getElem_cons hk, List.length_cons, List.take_succ_cons] at h
    exact (List.cons.inj h).2
theorem chunks_flat {k : Nat} {α : Type} {f : α → D} (hk : ∀ a, (f a).cells.length = k) (hm : ∀ a, mkEl k (f a).cells = f a) : ∀ l : List α, chunks k l.length (flat (l.map f)) = l.map f
  | [] => rfl
  | a :: r => by
    rw [List.map_cons, flat, List.length_cons, chunks, List.take_append_of_le_length (by rw [hk]; exact Nat.le_refl _), List.take_of_length_le (by rw [hk]; exact Nat.le_refl _), hm, List.drop_append, List.drop_eq_nil_of_le (by rw [hk]; exact Nat.le_refl _), List.nil_append, hk, Nat.sub_self, List.drop_zero, chunks_flat hk hm r]
theorem strip_flat {g : Nat → Nat → Nat → Nat → D} {α : Type} {f : α → D} (h : ∀ a, stripFL g (f a).cells = (f a).cells) : ∀ l : List α, stripFL g (flat (l.map f)) = flat (l.map f)
  | [] => rfl
  | a :: r => by rw [List.map_cons, flat, stripFL_append, h, strip_flat h r]
@[go_sem] theorem appB_slice0 (k : Nat) (m : Mem) (t : Option Nat) (k' : Nat) (e es : List D) : appendB k m (.slice t k' e) es [] = some (.slice t k' e, m) := rfl
@[go_sem] theorem appB_nil0 (k : Nat) (m : Mem) (es : List D) : appendB k m .nil es [] = some (.nil, m) := rfl
@[go_sem] theorem appB_slice (k : Nat) (m : Mem) (k' : Nat) (e es : List D) (x : D) (xs : List D) : appendB k m (.slice (some 0) k' e) es (x :: xs) = some (.rsl m.boxes.length 0 (es ++ x :: xs).length k, { m with boxes := m.boxes ++ [flat (es ++ x :: xs)] }) := rfl
@[go_sem] theorem appB_nil (k : Nat) (m : Mem) (es : List D) (x : D) (xs : List D) : appendB k m .nil es (x :: xs) = some (.rsl m.boxes.length 0 (x :: xs).length k, { m with boxes := m.boxes ++ [flat (x :: xs)] }) := rfl
@[go_sem] theorem appB_rsl (k : Nat) (m : Mem) (id off len k' : Nat) (es : List D) (x : D) (xs : List D) : appendB k m (.rsl id off len k') es (x :: xs) = match m.boxes[id]? with
    | some cs => bif decide (k' = k) && (decide (off = 0) && (decide (cs.length = len * k) && decide (0 < len))) then some (.rsl m.boxes.length 0 (es ++ x :: xs).length k, { m with boxes := m.boxes.set id [] ++ [flat (es ++ x :: xs)] }) else none
    | none => none := rfl
/-- What a slice over a box becomes in the end. -/
theorem frz_rsl {α : Type} {k : Nat} {f : α → D} {l : List α} {m : Mem} {id : Nat} {n : Nat} (hb : m.boxes[id]? = some (flat (l.map f))) (hn : n = l.length) (hk : ∀ a, (f a).cells.length = k) (hm : ∀ a, mkEl k (f a).cells = f a) (hs : ∀ (g : Nat → Nat → Nat → Nat → D) a, stripFL g (f a).cells = (f a).cells) :
    frzM m m.boxes.length id 0 n k = .slice none k (l.map f) := by
  have hid : id < m.boxes.length := (List.getElem?_eq_some_iff.1 hb).1
  obtain ⟨N, hN⟩ : ∃ N, m.boxes.length = N + 1 := ⟨m.boxes.length - 1, by omega⟩
  rw [hN]
  subst hn
  have hl : (flat (l.map f)).length = l.length * k := by
    rw [flat_len (k := k) (fun d hd => by obtain ⟨a, _, rfl⟩ := List.mem_map.1 hd; exact hk a), List.length_map]
  simp only [frzM, hb, Nat.zero_add, hl, Nat.le_refl, decide_true, cond_true, List.drop_zero]
  rw [strip_flat (hs _), chunks_flat hk hm]
end Go.Eng
/- Lists that grow by append beside other tokens. -/
namespace Go.Eng
open Go
/-- A list whose token is the one behind those of base. -/
def accN (base : List Nat) (k : Nat) (l : List D) : D := match l with | [] => .nil | _ :: _ => .slice (some (base.length + 1)) k l
def accM (base : List Nat) (l : List D) : List Nat := match l with | [] => base | _ :: _ => base ++ [l.length]
@[go_sem] theorem elems_accN (m : Mem) (b : List Nat) (k : Nat) (l : List D) : elemsOf m k (accN b k l) = some l := by
  cases l with
  | nil => rfl
  | cons a r => simp [accN, elemsOf]
@[go_sem] theorem okC_accN (b : List Nat) (k : Nat) (l : List D) : (accN b k l).okC = true := by cases l <;> rfl
@[go_sem] theorem cells_accN (b : List Nat) (k : Nat) (l : List D) : (accN b k l).cells = [accN b k l] := by cases l <;> rfl
@[go_sem] theorem app_accN (bx : List (List D)) (b : List Nat) (k : Nat) (l : List D) (x : D) (xs : List D) : appendD k ⟨bx, accM b l⟩ (accN b k l) (x :: xs) = some (accN b k (l ++ x :: xs), ⟨bx, accM b (l ++ x :: xs)⟩) := by
  cases l with
  | nil => simp [accN, accM, app_nil]
  | cons a r => simp [accN, accM, appendD]
theorem strip_accN {g : Nat → Nat → Nat → Nat → D} {b : List Nat} {k : Nat} {l : List D} (h : stripFL g l = l) : stripF g (accN b k l) = outD k l := by
  cases l with
  | nil => rfl
  | cons a r => simp only [accN, stripF_slice, h, outD]
@[go_sem] theorem lenT_accN (P : Program) (u k : Nat) (b : List Nat) (l : List D) : lenT P u (accN b k l) = match sliceElem P u with | some _ => some l.length | none => none := by
  cases l with
  | nil => exact lenT_nil P u
  | cons a r => exact lenT_slice P u _ _ _
@[go_sem] theorem idxA_accN (P : Program) (t k : Nat) (b : List Nat) (l : List D) (kk : IntKind) (n : Int) : idxA P t (accN b k l) (.int kk n) = match sliceSz P t with
    | some k' => bif decide (k' = k) then (match atI l n with
      | some a => some (.ref a.cells 0)
      | none => none) else none
    | none => none := by
  cases l with
  | nil =>
    show none = _
    cases sliceSz P t with
    | none => rfl
    | some k' => cases n <;> simp [atI]
  | cons a r =>
    show idxA P t (.slice _ k (a :: r)) (.int kk n) = _
    rw [idxA_slice]
    cases sliceSz P t <;> rfl
theorem acc_accN (k : Nat) (l : List D) : accD k l = accN [] k l := by cases l <;> rfl
theorem acc_accM (l : List D) : accT l = accM [] l := by cases l <;> rfl
/-- A slice with these elements, whatever its rights. -/
structure Like {α : Type} (k : Nat) (f : α → D) (s : Sl α) (d : D) : Prop where
  strip : stripF noR d = sl k f s
  len : ∀ P u, lenT P u d = match sliceElem P u with | some _ => some s.items.length | none => none
  idx : ∀ P t (kk : IntKind) (n : Int), idxA P t d (.int kk n) = match sliceSz P t with
    | some k' => bif decide (k' = k) then (match atI s.items n with
      | some a => some (.ref (f a).cells 0)
      | none => none) else none
    | none => none
  ok : d.okC = true
  cells : d.cells = [d]
theorem Like.ofSl {α : Type} {k : Nat} {f : α → D} (s : Sl α) (h : ∀ x, stripF noR (f x) = f x) : Like k f s (sl k f s) :=
  ⟨strip_sl k f s h, fun P u => lenT_sl k f s P u, fun P t kk n => idxA_sl k f s P t kk n, okC_sl k f s, cells_sl k f s⟩
end Go.Eng
