/- Part of the engine that proves it: see the last text. -/
import Derived.Laws.BitsLemmas
import Derived.Test.YtcfmjomniaopcaaDoorJ3
import Derived.Test.YtcfmjomniaopcaaDoorEngS3
set_option linter.unusedSimpArgs false
set_option linter.unusedVariables false
/- Lists of data as slices. -/
namespace Go.Eng
open Go
theorem wrap_fit (n : Int) (h : -9223372036854775808 ≤ n ∧ n ≤ 9223372036854775807) : IntKind.i64.wrap n = n := by
  rw [IntKind.wrap_i64]; omega
theorem wrap_nat (k : Nat) (h : k < 4611686018427387904) : IntKind.i64.wrap ((k : Int) + 1) = ((k + 1 : Nat) : Int) := by
  rw [wrap_fit _ (by omega)]; omega
/-- A slice's elements (nothing: nil). -/
def Sl (α : Type) : Type := { l : Option (List α) // (l.getD []).length < 4611686018427387904 }
def Sl.items {α : Type} (s : Sl α) : List α := s.1.getD []
def Sl.isNil {α : Type} (s : Sl α) : Bool := s.1.isNone
theorem Sl.lt {α : Type} (s : Sl α) : s.items.length < 4611686018427387904 := s.2
def sl {α : Type} (k : Nat) (f : α → D) (s : Sl α) : D := match s.1 with | none => .nil | some l => .slice none k (l.map f)
section
variable {X : Ctx} {α : Type} (k : Nat) (f : α → D) (s : Sl α)
@[go_sem] theorem lenT_sl (P : Program) (u : Nat) : lenT P u (sl k f s) = match sliceElem P u with | some _ => some s.items.length | none => none := by
  unfold sl Sl.items
  cases s.1 with
  | none => rfl
  | some l => simp only [lenT_slice, List.length_map, Option.getD_some]; cases sliceElem P u <;> rfl
@[go_sem] theorem idxA_sl (P : Program) (t : Nat) (kk : IntKind) (n : Int) : idxA P t (sl k f s) (.int kk n) = match sliceSz P t with
    | some k' => bif decide (k' = k) then (match atI s.items n with
      | some a => some (.ref (f a).cells 0)
      | none => none) else none
    | none => none := by
  unfold sl Sl.items
  cases s.1 with
  | none => 
    show none = _
    cases sliceSz P t with
    | none => rfl
    | some k' => cases n <;> simp [atI]
  | some l =>
    simp only [idxA_slice, Option.getD_some]
    cases sliceSz P t with
    | none => rfl
    | some k' => cases n with
      | negSucc a => simp [atI]
      | ofNat a => simp only [atI, List.getElem?_map]; cases l[a]? <;> rfl
@[go_sem] theorem okC_sl : (sl k f s).okC = true := by unfold sl; cases s.1 <;> rfl
@[go_sem] theorem cells_sl : (sl k f s).cells = [sl k f s] := by unfold sl; cases s.1 <;> rfl
@[go_sem] theorem elems_sl (m : Mem) : elemsOf m k (sl k f s) = some (s.items.map f) := by
  unfold sl Sl.items; cases s.1 with
  | none => rfl
  | some l => simp [elemsOf]
theorem stripFL_map {g : Nat → Nat → Nat → Nat → D} (h : ∀ x, stripF g (f x) = f x) : ∀ l : List α, stripFL g (l.map f) = l.map f
  | [] => rfl
  | a :: r => by simp only [List.map_cons, stripFL_cons, h, stripFL_map h r]
theorem strip_sl {g : Nat → Nat → Nat → Nat → D} (h : ∀ x, stripF g (f x) = f x) : stripF g (sl k f s) = sl k f s := by
  unfold sl; cases s.1 with
  | none => rfl
  | some l => simp only [stripF_slice, stripFL_map f h]
theorem eqNil_sl (P : Program) (t : Nat) : eqD P t (sl k f s) .nil = match sliceElem P t with | some _ => some s.isNil | none => none := by
  unfold sl Sl.isNil; cases s.1 with
  | none => simp only [eqD_nil]; rfl
  | some l => simp only [eqD_slice]; rfl
end
attribute [go_sem] eqNil_sl
/-- Integers of the kind int. -/
def I64 : Type := { n : Int // -9223372036854775808 ≤ n ∧ n ≤ 9223372036854775807 }
def I (n : I64) : D := .int .i64 n.1
@[go_sem] theorem I_eq (n : I64) : I n = .int .i64 n.1 := rfl
def S (s : List UInt8) : D := .str s
@[go_sem] theorem S_eq (s : List UInt8) : S s = .str s := rfl
theorem strip_I {g : Nat → Nat → Nat → Nat → D} (n : I64) : stripF g (I n) = I n := rfl
theorem strip_S {g : Nat → Nat → Nat → Nat → D} (n : List UInt8) : stripF g (S n) = S n := rfl
@[go_sem] theorem strip_slI {g : Nat → Nat → Nat → Nat → D} (k : Nat) (s : Sl I64) : stripF g (sl k I s) = sl k I s := strip_sl k I s strip_I
@[go_sem] theorem strip_slS {g : Nat → Nat → Nat → Nat → D} (k : Nat) (s : Sl (List UInt8)) : stripF g (sl k S s) = sl k S s := strip_sl k S s strip_S
@[go_sem] theorem strip_slII {g : Nat → Nat → Nat → Nat → D} (k k' : Nat) (s : Sl (Sl I64)) : stripF g (sl k (sl k' I) s) = sl k (sl k' I) s := strip_sl k _ s fun x => strip_slI k' x
end Go.Eng
