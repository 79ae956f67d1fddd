/- Part of the engine that proves it: see the last text. -/
import Derived.Test.YtcfmjomniaopcaaDoorJ3
set_option linter.unusedSimpArgs false
set_option linter.unusedVariables false
/- The steps of a walk, in one: f is what is known. -/
namespace Go.Eng
open Go
theorem an {a b : Prop} (x : a) (y : b) : a ∧ b := ⟨x, y⟩
theorem gw {A P Q : Prop} (f : A) (h : Q) (e : A → Q → P := by
  intro f h
  repeat (first|(with_reducible first|refine Go.Eng.q1 ?_|refine Go.Eng.q2 ?_|refine Go.Eng.q3 ?_|refine Go.Eng.q4 ?_|refine Go.Eng.q5 ?_|refine Go.Eng.q6 ?_|refine Go.Eng.q7 ?_|refine Go.Eng.q8 ?_|refine Go.Eng.q9 ?_|refine Go.Eng.q10 ?_|refine Go.Eng.q11 ?_|refine Go.Eng.q12 (by decide) ?_)|((first|with_reducible refine Go.Eng.q13 ?_|((with_reducible refine Go.Eng.q14 ?_ ?_);focus exact rfl));intro K hK;simp +decide only[go_sem,Nat.reduceAdd,Nat.reduceMul,Nat.reduceSub,f];with_reducible refine hK _ ?_;clear hK K)|(with_reducible refine Go.Eng.q15 ?_;intro K J hK hJ;simp +decide only[go_sem,Nat.reduceAdd,Nat.reduceMul,Nat.reduceSub,f];(with_reducible first|refine hK ?_|refine hJ ?_);clear hK hJ K J))
  exact h) : P := e f h
end Go.Eng
