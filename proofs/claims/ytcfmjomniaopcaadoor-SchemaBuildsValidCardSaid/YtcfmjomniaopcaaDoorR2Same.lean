/- A part of the proof: see the last text. -/
import Derived.Test.YtcfmjomniaopcaaDoorR2Copy
import Derived.Test.YtcfmjomniaopcaaDoorR2Base
set_option linter.unusedSimpArgs false
set_option linter.unusedVariables false
/- The reference finds equal what is alike. -/
namespace Go.Eng
open Go Go.Proofs
def AlikeT (t u : Tbl) : Prop := t.name = u.name ∧ t.cols.items = u.cols.items ∧ t.checks.items = u.checks.items ∧ AlikeL (fun x y : Sl I64 => x.items = y.items) t.keys.items u.keys.items ∧ AlikeL AlikeF t.fgns.items u.fgns.items
end Go.Eng
