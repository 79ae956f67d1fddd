/- A part of the proof: see the last text. -/
import Derived.Test.YtcfmjomniaopcaaDoorR2Bld21
import Derived.Test.YtcfmjomniaopcaaDoorR2Awake
set_option linter.unusedSimpArgs false
set_option linter.unusedVariables false
/- SchemaBuild. -/
namespace Go.Eng
open Go Go.Proofs
theorem alike_reT (s : List Tbl) : AlikeL AlikeT (s.map reT) s := by
  refine ⟨by simp, fun i x y hx hy => ?_⟩
  rw [List.getElem?_map, hy] at hx
  have hx : reT y = x := by simpa using hx
  subst hx
  refine ⟨rfl, rfl, cn_items y.checks.lt, ⟨rfl, fun j a b ha hb => ?_⟩, ⟨rfl, fun j a b ha hb => ?_⟩⟩
  · have ha : y.keys.items[j]? = some a := ha
    rw [hb] at ha; cases ha; rfl
  · have ha : y.fgns.items[j]? = some a := ha
    rw [hb] at ha; cases ha; exact ⟨rfl, rfl, rfl⟩
set_option maxRecDepth 20000 in
set_option maxHeartbeats 8000000 in
theorem law4 (l : Sl Stm) : callP (XG GK) TT 4 [sl 22 encStm l] = some (.bool true) := by
  refine callP_val T4 rfl (by simp only [go_sem]) ?_
  unfold Tryd.f4
  simp only [Option.getD_some]
  obtain ⟨b, hb, hsm⟩ := small (G := GK) l
  simp (decide:=true) only[go_sem,Nat.reduceAdd,Nat.reduceMul,Nat.reduceSub]
  repeat (first|(with_reducible first|refine q1 ?_|refine q2 ?_|refine q3 ?_|refine q4 ?_|refine q5 ?_|refine q6 ?_|refine q7 ?_|refine q8 ?_|refine q9 ?_|refine q10 ?_|refine q11 ?_|refine q12 (by decide) ?_)|((first|with_reducible refine q13 ?_|((with_reducible refine q14 ?_ ?_);focus exact rfl));intro K hK;simp (decide:=true) only[go_sem,Nat.reduceAdd,Nat.reduceMul,Nat.reduceSub];with_reducible refine hK _ ?_;clear hK K)|(with_reducible refine q15 ?_;intro K J hK hJ;simp (decide:=true) only[go_sem,Nat.reduceAdd,Nat.reduceMul,Nat.reduceSub];(with_reducible first|refine hK ?_|refine hJ ?_);clear hK hJ K J))
  cases b
  · repeat (first|(with_reducible first|refine q1 ?_|refine q2 ?_|refine q3 ?_|refine q4 ?_|refine q5 ?_|refine q6 ?_|refine q7 ?_|refine q8 ?_|refine q9 ?_|refine q10 ?_|refine q11 ?_|refine q12 (by decide) ?_)|((first|with_reducible refine q13 ?_|((with_reducible refine q14 ?_ ?_);focus exact rfl));intro K hK;simp (decide:=true) only[go_sem,Nat.reduceAdd,Nat.reduceMul,Nat.reduceSub,callR_own pf19,callR_own pf20,awake,hb];with_reducible refine hK _ ?_;clear hK K)|(with_reducible refine q15 ?_;intro K J hK hJ;simp (decide:=true) only[go_sem,Nat.reduceAdd,Nat.reduceMul,Nat.reduceSub,callR_own pf19,callR_own pf20,awake,hb];(with_reducible first|refine hK ?_|refine hJ ?_);clear hK hJ K J))
    simp (decide:=true) only[go_sem,Nat.reduceAdd,Nat.reduceMul,Nat.reduceSub]
  obtain ⟨h1, h2⟩ := hsm rfl
  have c1 := bld21 l h1 h2
  have c2 := bld22 l h1 h2
  have hbi : ∀ b : Int, (b == b) = true := fun b => by simp
  have hlen := bldF_len (step := stepR) l.items []
  generalize bldF stepR [] l.items = o at *
  cases o with
  | ok s =>
    have hl := hlen s rfl
    simp only [bldI, bldT] at c1 c2
    have hsl : s.length < 4611686018427387904 := by simp at hl; omega
    have hsl2 : (s.map reT).length < 4611686018427387904 := by rw [List.length_map]; exact hsl
    have c3 := same23 (cn (s.map reT)) (cn s) (by rw [cn_items hsl, cn_items hsl2]; exact alike_reT s)
    repeat (first|(with_reducible first|refine q1 ?_|refine q2 ?_|refine q3 ?_|refine q4 ?_|refine q5 ?_|refine q6 ?_|refine q7 ?_|refine q8 ?_|refine q9 ?_|refine q10 ?_|refine q11 ?_|refine q12 (by decide) ?_)|((first|with_reducible refine q13 ?_|((with_reducible refine q14 ?_ ?_);focus exact rfl));intro K hK;simp (decide:=true) only[go_sem,Nat.reduceAdd,Nat.reduceMul,Nat.reduceSub,callR_own pf19,callR_own pf20,callR_own pf21,callR_own pf22,callR_own pf23,awake,hb,c1,c2,hbi,c3];with_reducible refine hK _ ?_;clear hK K)|(with_reducible refine q15 ?_;intro K J hK hJ;simp (decide:=true) only[go_sem,Nat.reduceAdd,Nat.reduceMul,Nat.reduceSub,callR_own pf19,callR_own pf20,callR_own pf21,callR_own pf22,callR_own pf23,awake,hb,c1,c2,hbi,c3];(with_reducible first|refine hK ?_|refine hJ ?_);clear hK hJ K J))
    simp (decide:=true) only[go_sem,Nat.reduceAdd,Nat.reduceMul,Nat.reduceSub,callR_own pf19,callR_own pf20,callR_own pf21,callR_own pf22,callR_own pf23,awake,hb,c1,c2,hbi,c3]
  | error p =>
    obtain ⟨i, e⟩ := p
    simp only [bldI, bldT] at c1 c2
    have c3 := same23 nilS nilS ⟨rfl, fun j a b ha hb => by simp [nilS, mkSl, Sl.items] at ha⟩
    simp only [sl_nilS] at c3
    repeat (first|(with_reducible first|refine q1 ?_|refine q2 ?_|refine q3 ?_|refine q4 ?_|refine q5 ?_|refine q6 ?_|refine q7 ?_|refine q8 ?_|refine q9 ?_|refine q10 ?_|refine q11 ?_|refine q12 (by decide) ?_)|((first|with_reducible refine q13 ?_|((with_reducible refine q14 ?_ ?_);focus exact rfl));intro K hK;simp (decide:=true) only[go_sem,Nat.reduceAdd,Nat.reduceMul,Nat.reduceSub,callR_own pf19,callR_own pf20,callR_own pf21,callR_own pf22,callR_own pf23,awake,hb,c1,c2,hbi,c3];with_reducible refine hK _ ?_;clear hK K)|(with_reducible refine q15 ?_;intro K J hK hJ;simp (decide:=true) only[go_sem,Nat.reduceAdd,Nat.reduceMul,Nat.reduceSub,callR_own pf19,callR_own pf20,callR_own pf21,callR_own pf22,callR_own pf23,awake,hb,c1,c2,hbi,c3];(with_reducible first|refine hK ?_|refine hJ ?_);clear hK hJ K J))
    simp (decide:=true) only[go_sem,Nat.reduceAdd,Nat.reduceMul,Nat.reduceSub,callR_own pf19,callR_own pf20,callR_own pf21,callR_own pf22,callR_own pf23,awake,hb,c1,c2,hbi,c3]
end Go.Eng
