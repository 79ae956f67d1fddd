/- A part of the proof: see the last text. -/
import Derived.Test.YtcfmjomniaopcaaDoorR2Tab
import Derived.Test.YtcfmjomniaopcaaDoorJ3
set_option linter.unusedSimpArgs false
set_option linter.unusedVariables false
/- What the variable holds. -/
namespace Go.Eng
open Go Go.Proofs
def kwL : List (List UInt8) := [[65, 78, 68], [65, 83], [65, 83, 67], [66, 69, 71, 73, 78], [66, 69, 84, 87, 69, 69, 78], [66, 89], [67, 72, 69, 67, 75], [67, 79, 77, 77, 73, 84], [67, 79, 85, 78, 84], [67, 82, 69, 65, 84, 69], [68, 69, 76, 69, 84, 69], [68, 69, 83, 67], [70, 79, 82, 69, 73, 71, 78], [70, 82, 79, 77], [71, 82, 79, 85, 80], [73, 78], [73, 78, 83, 69, 82, 84], [73, 78, 84, 69, 71, 69, 82], [73, 78, 84, 79], [73, 83], [74, 79, 73, 78], [75, 69, 89], [76, 69, 78, 71, 84, 72], [76, 73, 75, 69], [76, 73, 77, 73, 84], [77, 65, 88], [77, 73, 78], [78, 79, 84], [78, 85, 76, 76], [79, 78], [79, 82], [79, 82, 68, 69, 82], [80, 82, 73, 77, 65, 82, 89], [82, 69, 70, 69, 82, 69, 78, 67, 69, 83], [82, 69, 76, 69, 65, 83, 69], [82, 79, 76, 76, 66, 65, 67, 75], [83, 65, 86, 69, 80, 79, 73, 78, 84], [83, 69, 76, 69, 67, 84], [83, 69, 84], [83, 85, 77], [84, 65, 66, 76, 69], [84, 69, 88, 84], [84, 79], [85, 78, 73, 81, 85, 69], [85, 80, 68, 65, 84, 69], [86, 65, 76, 85, 69, 83], [87, 72, 69, 82, 69]]
def opsL : List D := [.slice none 1 [.int .i64 10], .slice none 1 [.int .i64 10], .slice none 1 [.int .i64 15, .int .i64 14], .slice none 1 [.int .i64 13, .int .i64 12], .slice none 1 [.int .i64 13, .int .i64 12], .slice none 1 [.int .i64 15, .int .i64 14]]
def GK : Nat → Option (List D) := fun g => match Nat.beq g 0 with | true => some opsL | false => none
@[go_sem] theorem GK_0 : GK 0 = some opsL := rfl
end Go.Eng
