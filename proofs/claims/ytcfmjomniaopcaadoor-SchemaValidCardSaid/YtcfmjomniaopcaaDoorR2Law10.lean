/- A part of the proof: see the last text. -/
import Derived.Test.YtcfmjomniaopcaaDoorR2PlainX
import Derived.Test.YtcfmjomniaopcaaDoorR2Awake
set_option linter.unusedSimpArgs false
set_option linter.unusedVariables false
/- SchemaValid. -/
namespace Go.Eng
open Go Go.Proofs
set_option maxRecDepth 20000 in
set_option maxHeartbeats 8000000 in
theorem law10 (s : Sl Tbl) : callP (XG GK) TT 10 [sl 5 encTbl s] = some (.bool true) := by
  refine callP_val T10 rfl (by simp only [go_sem]) ?_
  unfold Tryd.f10
  simp only [Option.getD_some]
  obtain ⟨b, hb, hsm⟩ := smallT (G := GK) s
  simp (decide:=true) only[go_sem,Nat.reduceAdd,Nat.reduceMul,Nat.reduceSub]
  repeat (first|(with_reducible first|refine q1 ?_|refine q2 ?_|refine q3 ?_|refine q4 ?_|refine q5 ?_|refine q6 ?_|refine q7 ?_|refine q8 ?_|refine q9 ?_|refine q10 ?_|refine q11 ?_|refine q12 (by decide) ?_)|((first|with_reducible refine q13 ?_|((with_reducible refine q14 ?_ ?_);focus exact rfl));intro K hK;simp (decide:=true) only[go_sem,Nat.reduceAdd,Nat.reduceMul,Nat.reduceSub];with_reducible refine hK _ ?_;clear hK K)|(with_reducible refine q15 ?_;intro K J hK hJ;simp (decide:=true) only[go_sem,Nat.reduceAdd,Nat.reduceMul,Nat.reduceSub];(with_reducible first|refine hK ?_|refine hJ ?_);clear hK hJ K J))
  cases b
  · repeat (first|(with_reducible first|refine q1 ?_|refine q2 ?_|refine q3 ?_|refine q4 ?_|refine q5 ?_|refine q6 ?_|refine q7 ?_|refine q8 ?_|refine q9 ?_|refine q10 ?_|refine q11 ?_|refine q12 (by decide) ?_)|((first|with_reducible refine q13 ?_|((with_reducible refine q14 ?_ ?_);focus exact rfl));intro K hK;simp (decide:=true) only[go_sem,Nat.reduceAdd,Nat.reduceMul,Nat.reduceSub,callR_own pf19,callR_own pf24,awake,hb];with_reducible refine hK _ ?_;clear hK K)|(with_reducible refine q15 ?_;intro K J hK hJ;simp (decide:=true) only[go_sem,Nat.reduceAdd,Nat.reduceMul,Nat.reduceSub,callR_own pf19,callR_own pf24,awake,hb];(with_reducible first|refine hK ?_|refine hJ ?_);clear hK hJ K J))
    simp (decide:=true) only[go_sem,Nat.reduceAdd,Nat.reduceMul,Nat.reduceSub]
  obtain ⟨h1, h2⟩ := hsm rfl
  have c1 := valid38 s h2
  have c2 := val39 s h2 h1
  rw [← valid_same h2] at c2
  have hbb : ∀ b : Bool, (b == b) = true := fun b => by cases b <;> rfl
  repeat (first|(with_reducible first|refine q1 ?_|refine q2 ?_|refine q3 ?_|refine q4 ?_|refine q5 ?_|refine q6 ?_|refine q7 ?_|refine q8 ?_|refine q9 ?_|refine q10 ?_|refine q11 ?_|refine q12 (by decide) ?_)|((first|with_reducible refine q13 ?_|((with_reducible refine q14 ?_ ?_);focus exact rfl));intro K hK;simp (decide:=true) only[go_sem,Nat.reduceAdd,Nat.reduceMul,Nat.reduceSub,callR_own pf19,callR_own pf24,awake,hb,callR_own pf38,callR_own pf39,c1,c2,hbb];with_reducible refine hK _ ?_;clear hK K)|(with_reducible refine q15 ?_;intro K J hK hJ;simp (decide:=true) only[go_sem,Nat.reduceAdd,Nat.reduceMul,Nat.reduceSub,callR_own pf19,callR_own pf24,awake,hb,callR_own pf38,callR_own pf39,c1,c2,hbb];(with_reducible first|refine hK ?_|refine hJ ?_);clear hK hJ K J))
  simp (decide:=true) only[go_sem,Nat.reduceAdd,Nat.reduceMul,Nat.reduceSub]
end Go.Eng
