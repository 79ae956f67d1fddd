/- A part of the proof: see the last text. -/
import Derived.Test.YtcfmjomniaopcaaDoorR2Ex
import Derived.Test.YtcfmjomniaopcaaDoorR2Copy
set_option linter.unusedSimpArgs false
set_option linter.unusedVariables false
/- Lists that are alike. -/
namespace Go.Eng
open Go Go.Proofs
/-- Lists of the same length, alike place by place. -/
def AlikeL {α : Type} (P : α → α → Prop) (a b : List α) : Prop := a.length = b.length ∧ ∀ (i : Nat) (x y : α), a[i]? = some x → b[i]? = some y → P x y
def AlikeF (f g : Fgn) : Prop := f.cols.items = g.cols.items ∧ f.table.1 = g.table.1 ∧ f.key.1 = g.key.1
end Go.Eng
/- The reference finds equal what is alike. -/
namespace Go.Eng
open Go Go.Proofs
open Nat (reduceAdd reduceMul reduceSub)
set_option maxRecDepth 20000
set_option maxHeartbeats 32000000
def AlikeT (t u : Tbl) : Prop := t.name = u.name ∧ t.cols.items = u.cols.items ∧ t.checks.items = u.checks.items ∧ AlikeL (fun x y : Sl I64 => x.items = y.items) t.keys.items u.keys.items ∧ AlikeL AlikeF t.fgns.items u.fgns.items
end Go.Eng
