/- A part of the proof: see the last text. -/
import Derived.Test.YtcfmjomniaopcaaDoorR2Awake
set_option linter.unusedSimpArgs false
set_option linter.unusedVariables false
/- The laws' witness of chapter 12 is awake, given the keywords. -/
namespace Go.Eng
open Go Go.Proofs
set_option maxRecDepth 100000 in
theorem awake_run : callAt (XG GK) TT 100 19 ⟨[], []⟩ [] = some (.bool true, ⟨[], []⟩) := by kernel_rfl
theorem awake : callP (XG GK) TT 19 [] = some (.bool true) := by
  unfold callP
  rw [callR_of_at awake_run]
  rfl
end Go.Eng
