/- A part of the proof: see the last text. -/
import Derived.Test.YtcfmjomniaopcaaGreatDoorR2Look
import Derived.Test.YtcfmjomniaopcaaGreatDoorEngU
import Derived.Test.YtcfmjomniaopcaaGreatDoorEngA
set_option linter.unusedSimpArgs false
set_option linter.unusedVariables false
/- Names: how the program's lexer and the reference test them. -/
namespace Go.Eng
open Go Go.Proofs
open Nat (reduceAdd reduceMul reduceSub)
set_option maxRecDepth 20000
set_option maxHeartbeats 32000000
variable {G : Nat → Option (List D)}
def loI (n : Int) : Bool := decide (97 ≤ n) && decide (n ≤ 122)
def upI (n : Int) : Bool := decide (65 ≤ n) && decide (n ≤ 90)
def dgI (n : Int) : Bool := decide (48 ≤ n) && decide (n ≤ 57)
def ltrI (n : Int) : Bool := loI n || upI n
def wdI (n : Int) : Bool := (ltrI n || dgI n) || n == 95
def nmI (n : Int) : Bool := (loI n || dgI n) || n == 95
def wdB (b : UInt8) : Bool := wdI b.toNat
def nmB (b : UInt8) : Bool := nmI b.toNat
theorem let161 (n : Int) : callP (XG G) TT 73 [.int .u8 n] = some (.bool (ltrI n)) := by
  refine callP_val T73 rfl (by simp only [go_sem]) ?_
  unfold Tryz.f73
  simp only [Option.getD_some]
  simp +decide only[go_sem,reduceAdd,reduceMul,reduceSub]
  refine gw trivial ?_
  cases c1 : (decide (97 ≤ n))
  · cases c2 : (decide (65 ≤ n))
    · refine gw (an c1 c2) ?_
      simp +decide only[go_sem,reduceAdd,reduceMul,reduceSub,c1,c2]
      simp only [ltrI, loI, upI, c1, c2, Bool.false_and, Bool.or_false]
    · refine gw (an c1 c2) ?_
      simp +decide only[go_sem,reduceAdd,reduceMul,reduceSub,c1,c2]
      simp only [ltrI, loI, upI, c1, c2, Bool.false_and, Bool.true_and, Bool.false_or]
  · cases c2 : (decide (n ≤ 122))
    · cases c3 : (decide (65 ≤ n))
      · refine gw (an c1 (an c2 c3)) ?_
        simp +decide only[go_sem,reduceAdd,reduceMul,reduceSub,c1,c2,c3]
        simp only [ltrI, loI, upI, c1, c2, c3, Bool.false_and, Bool.true_and, Bool.or_false]
      · refine gw (an c1 (an c2 c3)) ?_
        simp +decide only[go_sem,reduceAdd,reduceMul,reduceSub,c1,c2,c3]
        simp only [ltrI, loI, upI, c1, c2, c3, Bool.true_and, Bool.false_or]
    · refine gw (an c1 c2) ?_
      simp +decide only[go_sem,reduceAdd,reduceMul,reduceSub,c1,c2]
      simp only [ltrI, loI, upI, c1, c2, Bool.true_and, Bool.true_or]
theorem dig181 (n : Int) : callP (XG G) TT 96 [.int .u8 n] = some (.bool (dgI n)) := by
  refine callP_val T96 rfl (by simp only [go_sem]) ?_
  unfold Tryz.f96
  simp only [Option.getD_some]
  simp +decide only[go_sem,reduceAdd,reduceMul,reduceSub]
  refine gw trivial ?_
  cases c1 : (decide (48 ≤ n))
  · refine gw c1 ?_
    simp +decide only[go_sem,reduceAdd,reduceMul,reduceSub,c1]
    simp only [dgI, c1, Bool.false_and]
  · refine gw c1 ?_
    simp +decide only[go_sem,reduceAdd,reduceMul,reduceSub,c1]
    simp only [dgI, c1, Bool.true_and]
theorem word163 (n : Int) : callP (XG G) TT 75 [.int .u8 n] = some (.bool (wdI n)) := by
  refine callP_val T75 rfl (by simp only [go_sem]) ?_
  unfold Tryz.f75
  simp only [Option.getD_some]
  simp +decide only[go_sem,reduceAdd,reduceMul,reduceSub,let161,dig181]
  repeat (first|(with_reducible first|refine q1 ?_|refine q2 ?_|refine q3 ?_|refine q4 ?_|refine q5 ?_|refine q6 ?_|refine q7 ?_|refine q8 ?_|refine q9 ?_|refine q10 ?_|refine q11 ?_|refine q12 (by decide) ?_)|((first|with_reducible refine q13 ?_|((with_reducible refine q14 ?_ ?_);focus exact rfl));intro K hK;simp +decide only[go_sem,reduceAdd,reduceMul,reduceSub,let161,dig181];with_reducible refine hK _ ?_;clear hK K)|(with_reducible refine q15 ?_;intro K J hK hJ;simp +decide only[go_sem,reduceAdd,reduceMul,reduceSub,let161,dig181];(with_reducible first|refine hK ?_|refine hJ ?_);clear hK hJ K J))
  cases c1 : (ltrI n)
  · cases c2 : (dgI n)
    · repeat (first|(with_reducible first|refine q1 ?_|refine q2 ?_|refine q3 ?_|refine q4 ?_|refine q5 ?_|refine q6 ?_|refine q7 ?_|refine q8 ?_|refine q9 ?_|refine q10 ?_|refine q11 ?_|refine q12 (by decide) ?_)|((first|with_reducible refine q13 ?_|((with_reducible refine q14 ?_ ?_);focus exact rfl));intro K hK;simp +decide only[go_sem,reduceAdd,reduceMul,reduceSub,let161,dig181,c1,c2];with_reducible refine hK _ ?_;clear hK K)|(with_reducible refine q15 ?_;intro K J hK hJ;simp +decide only[go_sem,reduceAdd,reduceMul,reduceSub,let161,dig181,c1,c2];(with_reducible first|refine hK ?_|refine hJ ?_);clear hK hJ K J))
      simp +decide only[go_sem,reduceAdd,reduceMul,reduceSub,let161,dig181,c1,c2]
      simp only [wdI, c1, c2, Bool.false_or]
    · repeat (first|(with_reducible first|refine q1 ?_|refine q2 ?_|refine q3 ?_|refine q4 ?_|refine q5 ?_|refine q6 ?_|refine q7 ?_|refine q8 ?_|refine q9 ?_|refine q10 ?_|refine q11 ?_|refine q12 (by decide) ?_)|((first|with_reducible refine q13 ?_|((with_reducible refine q14 ?_ ?_);focus exact rfl));intro K hK;simp +decide only[go_sem,reduceAdd,reduceMul,reduceSub,let161,dig181,c1,c2];with_reducible refine hK _ ?_;clear hK K)|(with_reducible refine q15 ?_;intro K J hK hJ;simp +decide only[go_sem,reduceAdd,reduceMul,reduceSub,let161,dig181,c1,c2];(with_reducible first|refine hK ?_|refine hJ ?_);clear hK hJ K J))
      simp +decide only[go_sem,reduceAdd,reduceMul,reduceSub,let161,dig181,c1,c2]
      simp only [wdI, c1, c2, Bool.false_or, Bool.true_or]
  · repeat (first|(with_reducible first|refine q1 ?_|refine q2 ?_|refine q3 ?_|refine q4 ?_|refine q5 ?_|refine q6 ?_|refine q7 ?_|refine q8 ?_|refine q9 ?_|refine q10 ?_|refine q11 ?_|refine q12 (by decide) ?_)|((first|with_reducible refine q13 ?_|((with_reducible refine q14 ?_ ?_);focus exact rfl));intro K hK;simp +decide only[go_sem,reduceAdd,reduceMul,reduceSub,let161,dig181,c1];with_reducible refine hK _ ?_;clear hK K)|(with_reducible refine q15 ?_;intro K J hK hJ;simp +decide only[go_sem,reduceAdd,reduceMul,reduceSub,let161,dig181,c1];(with_reducible first|refine hK ?_|refine hJ ?_);clear hK hJ K J))
    simp +decide only[go_sem,reduceAdd,reduceMul,reduceSub,let161,dig181,c1]
    simp only [wdI, c1, Bool.true_or]
/-- How many bytes at the front are of words. -/
def spanN : Str → Nat
  | [] => 0
  | b :: r => bif wdB b then spanN r + 1 else 0
theorem spanN_le : ∀ s : Str, spanN s ≤ s.length
  | [] => Nat.le_refl _
  | b :: r => by
    have := spanN_le r
    simp only [spanN, List.length_cons]
    cases wdB b <;> simp only [cond_true, cond_false] <;> omega
theorem span162 (m : Mem) (s : Str) (hs : s.length < 4611686018427387904) : callR (XG G) TT 74 m [.str s, .func 75 []] = some (.int .i64 (spanN s : Nat), m) := by
  refine callR_val T74 rfl ?_
  unfold Tryz.f74
  simp only [Option.getD_some]
  simp +decide only[go_sem,reduceAdd,reduceMul,reduceSub,word163]
  repeat (first|(with_reducible first|refine q1 ?_|refine q2 ?_|refine q3 ?_|refine q4 ?_|refine q5 ?_|refine q6 ?_|refine q7 ?_|refine q8 ?_|refine q9 ?_|refine q10 ?_|refine q11 ?_|refine q12 (by decide) ?_)|((first|with_reducible refine q13 ?_|((with_reducible refine q14 ?_ ?_);focus exact rfl));intro K hK;simp +decide only[go_sem,reduceAdd,reduceMul,reduceSub,word163];with_reducible refine hK _ ?_;clear hK K)|(with_reducible refine q15 ?_;intro K J hK hJ;simp +decide only[go_sem,reduceAdd,reduceMul,reduceSub,word163];(with_reducible first|refine hK ?_|refine hJ ?_);clear hK hJ K J))
  refine wpI_loopC (T := Nat) [0, 1, 5] rfl (by simp +decide only[go_sem,reduceAdd,reduceMul,reduceSub,word163]; exact rfl) (fun k => [(5, .int .i64 (k : Int))]) (fun _ => []) (fun _ => m) (fun k => k ≤ s.length ∧ k + spanN (s.drop k) = spanN s) (fun k => s.length - k) 0 (by simp +decide only[go_sem,reduceAdd,reduceMul,reduceSub,word163] <;> rfl) (by simp) ?_
  rintro k ⟨hk, hP⟩
  by_cases h : k < s.length
  · have l_x : ((k : Int) < ((s).length : Int)) = True := by simp; omega
    obtain ⟨x, g_x⟩ : ∃ a_, (s)[k]? = some a_ := ⟨_, List.getElem?_eq_getElem (by assumption)⟩
    have w_x := wrap_nat k (by omega)
    rw [dropc g_x, spanN, wdB] at hP
    cases c1 : (wdI x.toNat)
    · repeat (first|(with_reducible first|refine q1 ?_|refine q2 ?_|refine q3 ?_|refine q4 ?_|refine q5 ?_|refine q6 ?_|refine q7 ?_|refine q8 ?_|refine q9 ?_|refine q10 ?_|refine q11 ?_|refine q12 (by decide) ?_)|((first|with_reducible refine q13 ?_|((with_reducible refine q14 ?_ ?_);focus exact rfl));intro K hK;simp +decide only[go_sem,reduceAdd,reduceMul,reduceSub,word163,l_x,g_x,w_x,c1];with_reducible refine hK _ ?_;clear hK K)|(with_reducible refine q15 ?_;intro K J hK hJ;simp +decide only[go_sem,reduceAdd,reduceMul,reduceSub,word163,l_x,g_x,w_x,c1];(with_reducible first|refine hK ?_|refine hJ ?_);clear hK hJ K J))
      rw [c1, cond_false] at hP
      simp +decide only[go_sem,reduceAdd,reduceMul,reduceSub,word163,l_x,g_x,w_x,c1]
      rw [← hP]
      exact ⟨rfl, trivial⟩
    · repeat (first|(with_reducible first|refine q1 ?_|refine q2 ?_|refine q3 ?_|refine q4 ?_|refine q5 ?_|refine q6 ?_|refine q7 ?_|refine q8 ?_|refine q9 ?_|refine q10 ?_|refine q11 ?_|refine q12 (by decide) ?_)|((first|with_reducible refine q13 ?_|((with_reducible refine q14 ?_ ?_);focus exact rfl));intro K hK;simp +decide only[go_sem,reduceAdd,reduceMul,reduceSub,word163,l_x,g_x,w_x,c1];with_reducible refine hK _ ?_;clear hK K)|(with_reducible refine q15 ?_;intro K J hK hJ;simp +decide only[go_sem,reduceAdd,reduceMul,reduceSub,word163,l_x,g_x,w_x,c1];(with_reducible first|refine hK ?_|refine hJ ?_);clear hK hJ K J))
      rw [c1, cond_true] at hP
      exact ⟨k + 1, by simp +decide only[go_sem,reduceAdd,reduceMul,reduceSub,word163,l_x,g_x,w_x,c1] <;> rfl, ⟨by omega, by omega⟩, by omega⟩
  · have l_x : ((k : Int) < ((s).length : Int)) = False := by simp; omega
    rw [List.drop_eq_nil_of_le (by omega), spanN] at hP
    repeat (first|(with_reducible first|refine q1 ?_|refine q2 ?_|refine q3 ?_|refine q4 ?_|refine q5 ?_|refine q6 ?_|refine q7 ?_|refine q8 ?_|refine q9 ?_|refine q10 ?_|refine q11 ?_|refine q12 (by decide) ?_)|((first|with_reducible refine q13 ?_|((with_reducible refine q14 ?_ ?_);focus exact rfl));intro K hK;simp +decide only[go_sem,reduceAdd,reduceMul,reduceSub,word163,l_x];with_reducible refine hK _ ?_;clear hK K)|(with_reducible refine q15 ?_;intro K J hK hJ;simp +decide only[go_sem,reduceAdd,reduceMul,reduceSub,word163,l_x];(with_reducible first|refine hK ?_|refine hJ ?_);clear hK hJ K J))
    simp +decide only[go_sem,reduceAdd,reduceMul,reduceSub,word163,l_x]
    rw [← hP]
    exact ⟨rfl, trivial⟩
end Go.Eng
