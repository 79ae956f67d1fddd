/- A part of the proof: see the last text. -/
import Derived.Test.YtcfmjomniaopcaaGreatDoorR2Ex
set_option linter.unusedSimpArgs false
set_option linter.unusedVariables false
/- Lists that are alike. -/
namespace Go.Eng
open Go Go.Proofs
/-- Lists of the same length, alike place by place. -/
def AlikeL {α : Type} (P : α → α → Prop) (a b : List α) : Prop := a.length = b.length ∧ ∀ (i : Nat) (x y : α), a[i]? = some x → b[i]? = some y → P x y
def AlikeF (f g : Fgn) : Prop := f.cols.items = g.cols.items ∧ f.table.1 = g.table.1 ∧ f.key.1 = g.key.1
theorem eqI_eq : ∀ {a b : List I64}, eqI a b = true → a = b
  | [], [], _ => rfl
  | [], _ :: _, h => by cases h
  | _ :: _, [], h => by cases h
  | x :: a, y :: b, h => by
    have h : ((x.1 == y.1) && eqF (fun x y : I64 => x.1 == y.1) a b) = true := h
    rw [Bool.and_eq_true] at h
    have h1 : x = y := Subtype.ext (by simpa using h.1)
    rw [h1, eqI_eq (a := a) (b := b) h.2]
end Go.Eng
