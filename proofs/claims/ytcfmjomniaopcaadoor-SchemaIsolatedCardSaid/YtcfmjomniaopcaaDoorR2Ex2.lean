/- A part of the proof: see the last text. -/
import Derived.Test.YtcfmjomniaopcaaDoorR2Ex
set_option linter.unusedSimpArgs false
set_option linter.unusedVariables false
namespace Go.Eng
open Go Go.Proofs
open Nat (reduceAdd reduceMul reduceSub)
set_option maxRecDepth 20000
set_option maxHeartbeats 32000000
attribute [local irreducible] wpI endP
theorem eq150 (a b : Sl Str) (m : Mem) (id : Nat) (hm : m.boxes[id]? = some [sl 1 S b]) : callR (XG GK) TT 150 m [sl 1 S a, .ptr id 0] = some (.bool (eqS a.items b.items), m) := by
  refine callR_val T150 rfl ?_
  unfold Tryd.f150
  simp only [Option.getD_some]
  have c := equal151 (G := GK) a b
  simp +decide only[go_sem,reduceAdd,reduceMul,reduceSub,hm,c]
  refine gw (an hm c) ?_
  simp +decide only[go_sem,reduceAdd,reduceMul,reduceSub,hm,c]
end Go.Eng
