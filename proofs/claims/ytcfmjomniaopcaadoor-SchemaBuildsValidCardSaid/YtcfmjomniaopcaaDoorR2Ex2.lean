/- A part of the proof: see the last text. -/
import Derived.Test.YtcfmjomniaopcaaDoorR2Ex
set_option linter.unusedSimpArgs false
set_option linter.unusedVariables false
namespace Go.Eng
open Go Go.Proofs
set_option maxRecDepth 20000 in
set_option maxHeartbeats 8000000 in
theorem eq150 (a b : Sl Str) (m : Mem) (id : Nat) (hm : m.boxes[id]? = some [sl 1 S b]) : callR (XG GK) TT 150 m [sl 1 S a, .ptr id 0] = some (.bool (eqS a.items b.items), m) := by
  refine callR_val T150 rfl ?_
  unfold Tryd.f150
  simp only [Option.getD_some]
  have c := equal151 (G := GK) a b
  simp (decide:=true) only[go_sem,Nat.reduceAdd,Nat.reduceMul,Nat.reduceSub,hm,callR_own pf151,c]
  repeat (first|(with_reducible first|refine q1 ?_|refine q2 ?_|refine q3 ?_|refine q4 ?_|refine q5 ?_|refine q6 ?_|refine q7 ?_|refine q8 ?_|refine q9 ?_|refine q10 ?_|refine q11 ?_|refine q12 (by decide) ?_)|((first|with_reducible refine q13 ?_|((with_reducible refine q14 ?_ ?_);focus exact rfl));intro K hK;simp (decide:=true) only[go_sem,Nat.reduceAdd,Nat.reduceMul,Nat.reduceSub,hm,callR_own pf151,c];with_reducible refine hK _ ?_;clear hK K)|(with_reducible refine q15 ?_;intro K J hK hJ;simp (decide:=true) only[go_sem,Nat.reduceAdd,Nat.reduceMul,Nat.reduceSub,hm,callR_own pf151,c];(with_reducible first|refine hK ?_|refine hJ ?_);clear hK hJ K J))
  simp (decide:=true) only[go_sem,Nat.reduceAdd,Nat.reduceMul,Nat.reduceSub,hm,callR_own pf151,c]
end Go.Eng
