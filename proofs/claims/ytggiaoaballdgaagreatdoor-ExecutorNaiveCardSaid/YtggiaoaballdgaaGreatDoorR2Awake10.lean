/- A part of the proof: see the last text. -/
import Derived.Test.YtggiaoaballdgaaGreatDoorJ9
set_option linter.unusedSimpArgs false
set_option linter.unusedVariables false
namespace Go.Eng
open Go Go.Proofs
set_option maxRecDepth 100000 in
theorem yGm :xH (XG GK) TT 300 10 ⟨[],[]⟩ []=some (.bool true,⟨[],[]⟩):=by kernel_rfl
theorem awake :zA (XG GK) TT 10 []=some (.bool true):=by
 unfold zA
 rw[wU yGm]
 rfl
end Go.Eng
