/- Part of the engine that proves it: see the last text. -/
import Derived.Test.YtcfmjomniaopcaaGreatDoorEngA
set_option linter.unusedSimpArgs false
set_option linter.unusedVariables false
/- Loops by what changes in them. -/
namespace Go.Eng
open Go
def lk {α : Type} (x : Nat) (a : α) : List (Nat × α) → α
  | [] => a
  | (y, b) :: r => if y = x then b else lk x a r
def ovr {α : Type} (c : List (Nat × α)) : List (Nat × α) → List (Nat × α)
  | [] => []
  | (x, a) :: r => (x, lk x a c) :: ovr c r
section
variable {α : Type} (x y : Nat) (a b : α) (r c : List (Nat × α))
@[go_sem] theorem lk_nil : lk x a [] = a := rfl
@[go_sem] theorem lk_cons : lk x a ((y, b) :: r) = if y = x then b else lk x a r := rfl
@[go_sem] theorem ovr_nil : ovr c [] = [] := rfl
@[go_sem] theorem ovr_cons : ovr c ((x, a) :: r) = (x, lk x a c) :: ovr c r := rfl
end
variable {X : Ctx} {F : Fi} {C : CallW} {Q : Post} {st : St}
/-- A loop: what its heads have in common is the state before it; chg: the slots that change; chgB: the boxes that change. -/
theorem wpI_loopC {a : Code} {T : Type} (live : List Nat) {l : List (Nat × D)} {lp : List (Nat × (Nat × Nat))} {bx : List (Nat × List D)} {m : Mem} (hl : liveOf F a = live) (hst : st.keep live = ⟨slL l, opL lp, opL bx, m⟩)
    (chg : T → List (Nat × D)) (chgB : T → List (Nat × List D)) (mem : T → Mem) (I : T → Prop) (μ : T → Nat) (p0 : T)
    (h0 : (⟨slL l, opL lp, opL bx, m⟩ : St) = ⟨slL (ovr (chg p0) l), opL lp, opL (ovr (chgB p0) bx), mem p0⟩) (hI : I p0)
    (hr : ∀ p, I p → wpI X F C a (thenP (fun st' => ∃ p', st'.keep live = ⟨slL (ovr (chg p') l), opL lp, opL (ovr (chgB p') bx), mem p'⟩ ∧ I p' ∧ μ p' < μ p) Q) ⟨slL (ovr (chg p) l), opL lp, opL (ovr (chgB p) bx), mem p⟩) :
    wpI X F C (.loop a) Q st :=
  wpI_loop live (fun p => ⟨slL (ovr (chg p) l), opL lp, opL (ovr (chgB p) bx), mem p⟩) I μ p0 hl (hst.trans h0) hI hr
end Go.Eng
