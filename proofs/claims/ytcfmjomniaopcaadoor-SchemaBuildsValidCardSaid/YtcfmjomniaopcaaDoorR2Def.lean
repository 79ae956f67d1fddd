/- A part of the proof: see the last text. -/
import Derived.Test.YtcfmjomniaopcaaDoorR2Valid2
import Derived.Test.YtcfmjomniaopcaaDoorR2BldR
set_option linter.unusedSimpArgs false
set_option linter.unusedVariables false
/- The reference's Definition and Valid. -/
namespace Go.Eng
open Go Go.Proofs
variable {G : Nat → Option (List D)}
def kn (t : Tbl) (k : Sl I64) : Sl Str := cn (k.items.map (nameAt t.cols.items))
/-- A foreign key, as it stands in a statement. -/
def fgS (s : List Tbl) (t : Tbl) (f : Fgn) : FgS := match atI s f.table.1 with
  | some u => ⟨kn t f.cols, u.name, match atI u.keys.items f.key.1 with | some k => kn u k | none => nilS⟩
  | none => ⟨nilS, [], nilS⟩
def one : I64 := ⟨1, by decide⟩
def defS (s : List Tbl) (t : Tbl) : Stm := ⟨one, t.name, t.cols, cn (t.keys.items.map (kn t)), cn (t.fgns.items.map (fgS s t)), t.checks, zeroRest⟩
def FgI (s : List Tbl) (t : Tbl) (f : Fgn) : Prop := inC t.cols.items f.cols.items ∧ ∃ u k, atI s f.table.1 = some u ∧ atI u.keys.items f.key.1 = some k ∧ inC u.cols.items k.items ∧ k.items.length ≤ 100
end Go.Eng
