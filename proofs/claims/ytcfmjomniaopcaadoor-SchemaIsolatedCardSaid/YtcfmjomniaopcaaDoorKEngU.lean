/- Part of the engine that proves it: see the last text. -/
import Derived.Test.YtcfmjomniaopcaaDoorEngY
set_option linter.unusedSimpArgs false
set_option linter.unusedVariables false
/- One list that grows by append, in a function on its own. -/
namespace Go.Eng
open Go
def accD (k : Nat) (l : List D) : D := match l with | [] => .nil | _ :: _ => .slice (some 1) k l
def accT (l : List D) : List Nat := match l with | [] => [] | _ :: _ => [l.length]
/-- The list, handed back. -/
def outD (k : Nat) (l : List D) : D := match l with | [] => .nil | _ :: _ => .slice none k l
@[go_sem] theorem elems_acc (m : Mem) (k : Nat) (l : List D) : elemsOf m k (accD k l) = some l := by
  cases l with
  | nil => rfl
  | cons a r => simp [accD, elemsOf]
@[go_sem] theorem okC_acc (k : Nat) (l : List D) : (accD k l).okC = true := by cases l <;> rfl
@[go_sem] theorem cells_acc (k : Nat) (l : List D) : (accD k l).cells = [accD k l] := by cases l <;> rfl
@[go_sem] theorem app_acc (k : Nat) (l : List D) (x : D) (xs : List D) : appendD k ⟨[], accT l⟩ (accD k l) (x :: xs) = some (accD k (l ++ x :: xs), ⟨[], accT (l ++ x :: xs)⟩) := by
  cases l with
  | nil => simp [accD, accT, app_nil]
  | cons a r => simp [accD, accT, app_tok]
theorem strip_acc {g : Nat → Nat → Nat → Nat → D} {k : Nat} {l : List D} (h : stripFL g l = l) : stripF g (accD k l) = outD k l := by
  cases l with
  | nil => rfl
  | cons a r => simp only [accD, stripF_slice, h, outD]
theorem strip_out {g : Nat → Nat → Nat → Nat → D} {k : Nat} {l : List D} (h : stripFL g l = l) : stripF g (outD k l) = outD k l := by
  cases l with
  | nil => rfl
  | cons a r => simp only [outD, stripF_slice, h]
@[go_sem] theorem lenT_acc (P : Program) (u k : Nat) (l : List D) : lenT P u (accD k l) = match sliceElem P u with | some _ => some l.length | none => none := by
  cases l with
  | nil => exact lenT_nil P u
  | cons a r => exact lenT_slice P u _ _ _
@[go_sem] theorem lenT_out (P : Program) (u k : Nat) (l : List D) : lenT P u (outD k l) = match sliceElem P u with | some _ => some l.length | none => none := by
  cases l with
  | nil => exact lenT_nil P u
  | cons a r => exact lenT_slice P u _ _ _
@[go_sem] theorem idxA_out (P : Program) (t k : Nat) (l : List D) (kk : IntKind) (n : Int) : idxA P t (outD k l) (.int kk n) = match sliceSz P t with
    | some k' => bif decide (k' = k) then (match atI l n with
      | some a => some (.ref a.cells 0)
      | none => none) else none
    | none => none := by
  cases l with
  | nil =>
    show none = _
    cases sliceSz P t with
    | none => rfl
    | some k' => cases n <;> simp [atI]
  | cons a r =>
    show idxA P t (.slice none k (a :: r)) (.int kk n) = _
    rw [idxA_slice]
    cases sliceSz P t <;> rfl
@[go_sem] theorem okC_out (k : Nat) (l : List D) : (outD k l).okC = true := by cases l <;> rfl
@[go_sem] theorem cells_out (k : Nat) (l : List D) : (outD k l).cells = [outD k l] := by cases l <;> rfl
end Go.Eng
/- Loops by what changes in them. -/
namespace Go.Eng
open Go
def lk {α : Type} (x : Nat) (a : α) : List (Nat × α) → α
  | [] => a
  | (y, b) :: r => if y = x then b else lk x a r
def ovr {α : Type} (c : List (Nat × α)) : List (Nat × α) → List (Nat × α)
  | [] => []
  | (x, a) :: r => (x, lk x a c) :: ovr c r
section
variable {α : Type} (x y : Nat) (a b : α) (r c : List (Nat × α))
@[go_sem] theorem lk_nil : lk x a [] = a := rfl
@[go_sem] theorem lk_cons : lk x a ((y, b) :: r) = if y = x then b else lk x a r := rfl
@[go_sem] theorem ovr_nil : ovr c [] = [] := rfl
@[go_sem] theorem ovr_cons : ovr c ((x, a) :: r) = (x, lk x a c) :: ovr c r := rfl
end
variable {X : Ctx} {F : Fi} {C : CallW} {Q : Post} {st : St}
/-- A loop: what its heads have in common is the state before it; chg: the slots that change; chgB: the boxes that change. -/
theorem wpI_loopC {a : Code} {T : Type} (live : List Nat) {l : List (Nat × D)} {lp : List (Nat × (Nat × Nat))} {bx : List (Nat × List D)} {m : Mem} (hl : liveOf F a = live) (hst : st.keep live = ⟨slL l, opL lp, opL bx, m⟩)
    (chg : T → List (Nat × D)) (chgB : T → List (Nat × List D)) (mem : T → Mem) (I : T → Prop) (μ : T → Nat) (p0 : T)
    (h0 : (⟨slL l, opL lp, opL bx, m⟩ : St) = ⟨slL (ovr (chg p0) l), opL lp, opL (ovr (chgB p0) bx), mem p0⟩) (hI : I p0)
    (hr : ∀ p, I p → wpI X F C a (thenP (fun st' => ∃ p', st'.keep live = ⟨slL (ovr (chg p') l), opL lp, opL (ovr (chgB p') bx), mem p'⟩ ∧ I p' ∧ μ p' < μ p) Q) ⟨slL (ovr (chg p) l), opL lp, opL (ovr (chgB p) bx), mem p⟩) :
    wpI X F C (.loop a) Q st :=
  wpI_loop live (fun p => ⟨slL (ovr (chg p) l), opL lp, opL (ovr (chgB p) bx), mem p⟩) I μ p0 hl (hst.trans h0) hI hr
end Go.Eng
