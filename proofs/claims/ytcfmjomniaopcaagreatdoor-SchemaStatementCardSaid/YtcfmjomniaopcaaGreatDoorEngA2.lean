/- Part of the engine that proves it: see the last text. -/
import Derived.Test.YtcfmjomniaopcaaGreatDoorEngB
set_option linter.unusedSimpArgs false
set_option linter.unusedVariables false
/- Lists that grow by append beside other tokens. -/
namespace Go.Eng
open Go
/-- A list whose token is the one behind those of base. -/
def accN (base : List Nat) (k : Nat) (l : List D) : D := match l with | [] => .nil | _ :: _ => .slice (some (base.length + 1)) k l
def accM (base : List Nat) (l : List D) : List Nat := match l with | [] => base | _ :: _ => base ++ [l.length]
@[go_sem] theorem elems_accN (m : Mem) (b : List Nat) (k : Nat) (l : List D) : elemsOf m k (accN b k l) = some l := by
  cases l with
  | nil => rfl
  | cons a r => simp [accN, elemsOf]
@[go_sem] theorem okC_accN (b : List Nat) (k : Nat) (l : List D) : (accN b k l).okC = true := by cases l <;> rfl
@[go_sem] theorem cells_accN (b : List Nat) (k : Nat) (l : List D) : (accN b k l).cells = [accN b k l] := by cases l <;> rfl
@[go_sem] theorem app_accN (bx : List (List D)) (b : List Nat) (k : Nat) (l : List D) (x : D) (xs : List D) : appendD k ⟨bx, accM b l⟩ (accN b k l) (x :: xs) = some (accN b k (l ++ x :: xs), ⟨bx, accM b (l ++ x :: xs)⟩) := by
  cases l with
  | nil => simp [accN, accM, app_nil]
  | cons a r => simp [accN, accM, appendD]
theorem strip_accN {g : Nat → Nat → Nat → Nat → D} {b : List Nat} {k : Nat} {l : List D} (h : stripFL g l = l) : stripF g (accN b k l) = outD k l := by
  cases l with
  | nil => rfl
  | cons a r => simp only [accN, stripF_slice, h, outD]
@[go_sem] theorem lenT_accN (P : Program) (u k : Nat) (b : List Nat) (l : List D) : lenT P u (accN b k l) = match sliceElem P u with | some _ => some l.length | none => none := by
  cases l with
  | nil => exact lenT_nil P u
  | cons a r => exact lenT_slice P u _ _ _
@[go_sem] theorem idxA_accN (P : Program) (t k : Nat) (b : List Nat) (l : List D) (kk : IntKind) (n : Int) : idxA P t (accN b k l) (.int kk n) = match sliceSz P t with
    | some k' => bif decide (k' = k) then (match atI l n with
      | some a => some (.ref a.cells 0)
      | none => none) else none
    | none => none := by
  cases l with
  | nil =>
    show none = _
    cases sliceSz P t with
    | none => rfl
    | some k' => cases n <;> simp [atI]
  | cons a r =>
    show idxA P t (.slice _ k (a :: r)) (.int kk n) = _
    rw [idxA_slice]
    cases sliceSz P t <;> rfl
theorem acc_accN (k : Nat) (l : List D) : accD k l = accN [] k l := by cases l <;> rfl
theorem acc_accM (l : List D) : accT l = accM [] l := by cases l <;> rfl
/-- A slice with these elements, whatever its rights. -/
structure Like {α : Type} (k : Nat) (f : α → D) (s : Sl α) (d : D) : Prop where
  strip : stripF noR d = sl k f s
  len : ∀ P u, lenT P u d = match sliceElem P u with | some _ => some s.items.length | none => none
  idx : ∀ P t (kk : IntKind) (n : Int), idxA P t d (.int kk n) = match sliceSz P t with
    | some k' => bif decide (k' = k) then (match atI s.items n with
      | some a => some (.ref (f a).cells 0)
      | none => none) else none
    | none => none
  ok : d.okC = true
  cells : d.cells = [d]
theorem Like.ofSl {α : Type} {k : Nat} {f : α → D} (s : Sl α) (h : ∀ x, stripF noR (f x) = f x) : Like k f s (sl k f s) :=
  ⟨strip_sl k f s h, fun P u => lenT_sl k f s P u, fun P t kk n => idxA_sl k f s P t kk n, okC_sl k f s, cells_sl k f s⟩
end Go.Eng
