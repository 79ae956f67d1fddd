/- A part of the proof: see the last text. -/
import Derived.Test.YtcfmjomniaopcaaDoorR2Ex
import Derived.Test.YtcfmjomniaopcaaDoorKEngA2
set_option linter.unusedSimpArgs false
set_option linter.unusedVariables false
/- copyExpr returns the same expression. -/
namespace Go.Eng
open Go Go.Proofs
open Nat (reduceAdd reduceMul reduceSub)
set_option maxRecDepth 20000
set_option maxHeartbeats 32000000
theorem ex_mk (e : Ex) : mkEl 8 (encEx e).cells = encEx e := by
  obtain ⟨r, he, _⟩ := e.open
  rw [he]; rfl
theorem ex_strip (g : Nat → Nat → Nat → Nat → D) (e : Ex) : stripFL g (encEx e).cells = (encEx e).cells := by
  obtain ⟨r, he, _⟩ := e.open
  rw [he]
  simp only [ExR.enc, cells_agg, stripFL_cons, go_sem]
end Go.Eng
