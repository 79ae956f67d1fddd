/- A part of the proof: see the last text. -/
import Derived.KernelRfl
import Derived.Test.YtcfmjomniaopcaaDoorR2Look
import Derived.Test.YtcfmjomniaopcaaDoorKEngU
import Derived.Test.YtcfmjomniaopcaaDoorKEngA2
set_option linter.unusedSimpArgs false
set_option linter.unusedVariables false
/- Names: how the program's lexer and the reference test them. -/
namespace Go.Eng
open Go Go.Proofs
open Nat (reduceAdd reduceMul reduceSub)
set_option maxRecDepth 20000
set_option maxHeartbeats 32000000
attribute [local irreducible] wpI endP
variable {G : Nat → Option (List D)}
def loI (n : Int) : Bool := decide (97 ≤ n) && decide (n ≤ 122)
def upI (n : Int) : Bool := decide (65 ≤ n) && decide (n ≤ 90)
def dgI (n : Int) : Bool := decide (48 ≤ n) && decide (n ≤ 57)
def ltrI (n : Int) : Bool := loI n || upI n
def wdI (n : Int) : Bool := (ltrI n || dgI n) || n == 95
def nmI (n : Int) : Bool := (loI n || dgI n) || n == 95
def wdB (b : UInt8) : Bool := wdI b.toNat
def nmB (b : UInt8) : Bool := nmI b.toNat
theorem let161 (n : Int) : callP (XG G) TT 161 [.int .u8 n] = some (.bool (ltrI n)) := by
  refine callP_val T161 rfl (by simp only [go_sem]) ?_
  unfold Tryd.f161
  simp only [Option.getD_some]
  simp +decide only[go_sem,reduceAdd,reduceMul,reduceSub]
  refine gw trivial ?_
  cases c1 : (decide (97 ≤ n))
  · cases c2 : (decide (65 ≤ n))
    · refine gw (an c1 c2) ?_
      simp +decide only[go_sem,reduceAdd,reduceMul,reduceSub,c1,c2]
      simp only [ltrI, loI, upI, c1, c2, Bool.false_and, Bool.or_false]
    · refine gw (an c1 c2) ?_
      simp +decide only[go_sem,reduceAdd,reduceMul,reduceSub,c1,c2]
      simp only [ltrI, loI, upI, c1, c2, Bool.false_and, Bool.true_and, Bool.false_or]
  · cases c2 : (decide (n ≤ 122))
    · cases c3 : (decide (65 ≤ n))
      · refine gw (an c1 (an c2 c3)) ?_
        simp +decide only[go_sem,reduceAdd,reduceMul,reduceSub,c1,c2,c3]
        simp only [ltrI, loI, upI, c1, c2, c3, Bool.false_and, Bool.true_and, Bool.or_false]
      · refine gw (an c1 (an c2 c3)) ?_
        simp +decide only[go_sem,reduceAdd,reduceMul,reduceSub,c1,c2,c3]
        simp only [ltrI, loI, upI, c1, c2, c3, Bool.true_and, Bool.false_or]
    · refine gw (an c1 c2) ?_
      simp +decide only[go_sem,reduceAdd,reduceMul,reduceSub,c1,c2]
      simp only [ltrI, loI, upI, c1, c2, Bool.true_and, Bool.true_or]
theorem dig181 (n : Int) : callP (XG G) TT 181 [.int .u8 n] = some (.bool (dgI n)) := by
  refine callP_val T181 rfl (by simp only [go_sem]) ?_
  unfold Tryd.f181
  simp only [Option.getD_some]
  simp +decide only[go_sem,reduceAdd,reduceMul,reduceSub]
  refine gw trivial ?_
  cases c1 : (decide (48 ≤ n))
  · refine gw c1 ?_
    simp +decide only[go_sem,reduceAdd,reduceMul,reduceSub,c1]
    simp only [dgI, c1, Bool.false_and]
  · refine gw c1 ?_
    simp +decide only[go_sem,reduceAdd,reduceMul,reduceSub,c1]
    simp only [dgI, c1, Bool.true_and]
theorem word163 (n : Int) : callP (XG G) TT 163 [.int .u8 n] = some (.bool (wdI n)) := by
  refine callP_val T163 rfl (by simp only [go_sem]) ?_
  unfold Tryd.f163
  simp only [Option.getD_some]
  simp +decide only[go_sem,reduceAdd,reduceMul,reduceSub,let161,dig181]
  repeat (first|(with_reducible first|refine q1 ?_|refine q2 ?_|refine q3 ?_|refine q4 ?_|refine q5 ?_|refine q6 ?_|refine q7 ?_|refine q8 ?_|refine q9 ?_|refine q10 ?_|refine q11 ?_|refine q12 (by decide) ?_)|((first|with_reducible refine q13 ?_|((with_reducible refine q14 ?_ ?_);focus exact rfl));intro K hK;simp +decide only[go_sem,reduceAdd,reduceMul,reduceSub,let161,dig181];with_reducible refine hK _ ?_;clear hK K)|(with_reducible refine q15 ?_;intro K J hK hJ;simp +decide only[go_sem,reduceAdd,reduceMul,reduceSub,let161,dig181];(with_reducible first|refine hK ?_|refine hJ ?_);clear hK hJ K J))
  cases c1 : (ltrI n)
  · cases c2 : (dgI n)
    · repeat (first|(with_reducible first|refine q1 ?_|refine q2 ?_|refine q3 ?_|refine q4 ?_|refine q5 ?_|refine q6 ?_|refine q7 ?_|refine q8 ?_|refine q9 ?_|refine q10 ?_|refine q11 ?_|refine q12 (by decide) ?_)|((first|with_reducible refine q13 ?_|((with_reducible refine q14 ?_ ?_);focus exact rfl));intro K hK;simp +decide only[go_sem,reduceAdd,reduceMul,reduceSub,let161,dig181,c1,c2];with_reducible refine hK _ ?_;clear hK K)|(with_reducible refine q15 ?_;intro K J hK hJ;simp +decide only[go_sem,reduceAdd,reduceMul,reduceSub,let161,dig181,c1,c2];(with_reducible first|refine hK ?_|refine hJ ?_);clear hK hJ K J))
      simp +decide only[go_sem,reduceAdd,reduceMul,reduceSub,let161,dig181,c1,c2]
      simp only [wdI, c1, c2, Bool.false_or]
    · repeat (first|(with_reducible first|refine q1 ?_|refine q2 ?_|refine q3 ?_|refine q4 ?_|refine q5 ?_|refine q6 ?_|refine q7 ?_|refine q8 ?_|refine q9 ?_|refine q10 ?_|refine q11 ?_|refine q12 (by decide) ?_)|((first|with_reducible refine q13 ?_|((with_reducible refine q14 ?_ ?_);focus exact rfl));intro K hK;simp +decide only[go_sem,reduceAdd,reduceMul,reduceSub,let161,dig181,c1,c2];with_reducible refine hK _ ?_;clear hK K)|(with_reducible refine q15 ?_;intro K J hK hJ;simp +decide only[go_sem,reduceAdd,reduceMul,reduceSub,let161,dig181,c1,c2];(with_reducible first|refine hK ?_|refine hJ ?_);clear hK hJ K J))
      simp +decide only[go_sem,reduceAdd,reduceMul,reduceSub,let161,dig181,c1,c2]
      simp only [wdI, c1, c2, Bool.false_or, Bool.true_or]
  · repeat (first|(with_reducible first|refine q1 ?_|refine q2 ?_|refine q3 ?_|refine q4 ?_|refine q5 ?_|refine q6 ?_|refine q7 ?_|refine q8 ?_|refine q9 ?_|refine q10 ?_|refine q11 ?_|refine q12 (by decide) ?_)|((first|with_reducible refine q13 ?_|((with_reducible refine q14 ?_ ?_);focus exact rfl));intro K hK;simp +decide only[go_sem,reduceAdd,reduceMul,reduceSub,let161,dig181,c1];with_reducible refine hK _ ?_;clear hK K)|(with_reducible refine q15 ?_;intro K J hK hJ;simp +decide only[go_sem,reduceAdd,reduceMul,reduceSub,let161,dig181,c1];(with_reducible first|refine hK ?_|refine hJ ?_);clear hK hJ K J))
    simp +decide only[go_sem,reduceAdd,reduceMul,reduceSub,let161,dig181,c1]
    simp only [wdI, c1, Bool.true_or]
/-- How many bytes at the front are of words. -/
def spanN : Str → Nat
  | [] => 0
  | b :: r => bif wdB b then spanN r + 1 else 0
theorem spanN_le : ∀ s : Str, spanN s ≤ s.length
  | [] => Nat.le_refl _
  | b :: r => by
    have := spanN_le r
    simp only [spanN, List.length_cons]
    cases wdB b <;> simp only [cond_true, cond_false] <;> omega
theorem span162 (m : Mem) (s : Str) (hs : s.length < 4611686018427387904) : callR (XG G) TT 162 m [.str s, .func 163 []] = some (.int .i64 (spanN s : Nat), m) := by
  refine callR_val T162 rfl ?_
  unfold Tryd.f162
  simp only [Option.getD_some]
  simp +decide only[go_sem,reduceAdd,reduceMul,reduceSub,word163]
  repeat (first|(with_reducible first|refine q1 ?_|refine q2 ?_|refine q3 ?_|refine q4 ?_|refine q5 ?_|refine q6 ?_|refine q7 ?_|refine q8 ?_|refine q9 ?_|refine q10 ?_|refine q11 ?_|refine q12 (by decide) ?_)|((first|with_reducible refine q13 ?_|((with_reducible refine q14 ?_ ?_);focus exact rfl));intro K hK;simp +decide only[go_sem,reduceAdd,reduceMul,reduceSub,word163];with_reducible refine hK _ ?_;clear hK K)|(with_reducible refine q15 ?_;intro K J hK hJ;simp +decide only[go_sem,reduceAdd,reduceMul,reduceSub,word163];(with_reducible first|refine hK ?_|refine hJ ?_);clear hK hJ K J))
  refine wpI_loopC (T := Nat) [0, 1, 5] rfl (by simp +decide only[go_sem,reduceAdd,reduceMul,reduceSub,word163]; exact rfl) (fun k => [(5, .int .i64 (k : Int))]) (fun _ => []) (fun _ => m) (fun k => k ≤ s.length ∧ k + spanN (s.drop k) = spanN s) (fun k => s.length - k) 0 (by simp +decide only[go_sem,reduceAdd,reduceMul,reduceSub,word163] <;> rfl) (by simp) ?_
  rintro k ⟨hk, hP⟩
  by_cases h : k < s.length
  · have l_x : ((k : Int) < ((s).length : Int)) = True := by simp; omega
    obtain ⟨x, g_x⟩ : ∃ a_, (s)[k]? = some a_ := ⟨_, List.getElem?_eq_getElem (by assumption)⟩
    have w_x := wrap_nat k (by omega)
    rw [dropc g_x, spanN, wdB] at hP
    cases c1 : (wdI x.toNat)
    · repeat (first|(with_reducible first|refine q1 ?_|refine q2 ?_|refine q3 ?_|refine q4 ?_|refine q5 ?_|refine q6 ?_|refine q7 ?_|refine q8 ?_|refine q9 ?_|refine q10 ?_|refine q11 ?_|refine q12 (by decide) ?_)|((first|with_reducible refine q13 ?_|((with_reducible refine q14 ?_ ?_);focus exact rfl));intro K hK;simp +decide only[go_sem,reduceAdd,reduceMul,reduceSub,word163,l_x,g_x,w_x,c1];with_reducible refine hK _ ?_;clear hK K)|(with_reducible refine q15 ?_;intro K J hK hJ;simp +decide only[go_sem,reduceAdd,reduceMul,reduceSub,word163,l_x,g_x,w_x,c1];(with_reducible first|refine hK ?_|refine hJ ?_);clear hK hJ K J))
      rw [c1, cond_false] at hP
      simp +decide only[go_sem,reduceAdd,reduceMul,reduceSub,word163,l_x,g_x,w_x,c1]
      rw [← hP]
      exact ⟨rfl, trivial⟩
    · repeat (first|(with_reducible first|refine q1 ?_|refine q2 ?_|refine q3 ?_|refine q4 ?_|refine q5 ?_|refine q6 ?_|refine q7 ?_|refine q8 ?_|refine q9 ?_|refine q10 ?_|refine q11 ?_|refine q12 (by decide) ?_)|((first|with_reducible refine q13 ?_|((with_reducible refine q14 ?_ ?_);focus exact rfl));intro K hK;simp +decide only[go_sem,reduceAdd,reduceMul,reduceSub,word163,l_x,g_x,w_x,c1];with_reducible refine hK _ ?_;clear hK K)|(with_reducible refine q15 ?_;intro K J hK hJ;simp +decide only[go_sem,reduceAdd,reduceMul,reduceSub,word163,l_x,g_x,w_x,c1];(with_reducible first|refine hK ?_|refine hJ ?_);clear hK hJ K J))
      rw [c1, cond_true] at hP
      exact ⟨k + 1, by simp +decide only[go_sem,reduceAdd,reduceMul,reduceSub,word163,l_x,g_x,w_x,c1] <;> rfl, ⟨by omega, by omega⟩, by omega⟩
  · have l_x : ((k : Int) < ((s).length : Int)) = False := by simp; omega
    rw [List.drop_eq_nil_of_le (by omega), spanN] at hP
    repeat (first|(with_reducible first|refine q1 ?_|refine q2 ?_|refine q3 ?_|refine q4 ?_|refine q5 ?_|refine q6 ?_|refine q7 ?_|refine q8 ?_|refine q9 ?_|refine q10 ?_|refine q11 ?_|refine q12 (by decide) ?_)|((first|with_reducible refine q13 ?_|((with_reducible refine q14 ?_ ?_);focus exact rfl));intro K hK;simp +decide only[go_sem,reduceAdd,reduceMul,reduceSub,word163,l_x];with_reducible refine hK _ ?_;clear hK K)|(with_reducible refine q15 ?_;intro K J hK hJ;simp +decide only[go_sem,reduceAdd,reduceMul,reduceSub,word163,l_x];(with_reducible first|refine hK ?_|refine hJ ?_);clear hK hJ K J))
    simp +decide only[go_sem,reduceAdd,reduceMul,reduceSub,word163,l_x]
    rw [← hP]
    exact ⟨rfl, trivial⟩
end Go.Eng
namespace Go.Eng
open Go Go.Proofs
open Nat (reduceAdd reduceMul reduceSub)
set_option maxRecDepth 20000
set_option maxHeartbeats 32000000
attribute [local irreducible] wpI endP
variable {G : Nat → Option (List D)}
@[go_sem] theorem ty_by_200 : bytesTy Tryd.prog 200 = true := by kernel_rfl
@[go_sem] theorem ty_st_200 : isStr Tryd.prog 200 = false := by kernel_rfl
@[go_sem] theorem ty_by_2 : bytesTy Tryd.prog 2 = false := by kernel_rfl
@[go_sem] theorem ty_by_3 : bytesTy Tryd.prog 3 = false := by kernel_rfl
@[go_sem] theorem ty_by_204 : bytesTy Tryd.prog 204 = false := by kernel_rfl
@[go_sem] theorem ty_st_2 : isStr Tryd.prog 2 = false := by kernel_rfl
@[go_sem] theorem ty_st_3 : isStr Tryd.prog 3 = false := by kernel_rfl
@[go_sem] theorem ty_st_204 : isStr Tryd.prog 204 = false := by kernel_rfl
@[go_sem] theorem ty_by_9 : bytesTy Tryd.prog 9 = false := by kernel_rfl
def lowB (b : UInt8) : UInt8 := bif upI b.toNat then b + 32 else b
theorem mix_get {s : Str} {f : UInt8 → UInt8} {k : Nat} {x : UInt8} (h : s[k]? = some x) : (((s.take k).map f ++ s.drop k).map byteD)[k]? = some (byteD x) := by
  have hk : k < s.length := (List.getElem?_eq_some_iff.1 h).1
  rw [List.getElem?_map, List.getElem?_append_right (by simp; omega)]
  simp only [List.length_map, List.length_take, Nat.min_eq_left (Nat.le_of_lt hk), Nat.sub_self, List.getElem?_drop, Nat.add_zero, h, Option.map_some]
theorem mix_len {s : Str} {f : UInt8 → UInt8} {k : Nat} : (((s.take k).map f ++ s.drop k).map byteD).length = s.length := by simp; omega
theorem mix_set {s : Str} {f : UInt8 → UInt8} {k : Nat} {x : UInt8} (h : s[k]? = some x) : (((s.take k).map f ++ s.drop k).map byteD).set k (byteD (f x)) = ((s.take (k + 1)).map f ++ s.drop (k + 1)).map byteD := by
  have hk : k < s.length := (List.getElem?_eq_some_iff.1 h).1
  rw [dropc h, List.take_add_one, h]
  have : ((s.take k).map f).length = k := by simp; omega
  simp only [List.map_append, List.map_cons, Option.toList_some, List.map_nil, List.append_assoc, List.cons_append, List.nil_append]
  rw [List.set_append_right _ _ (by simp; omega)]
  simp [Nat.min_eq_left (Nat.le_of_lt hk)]
theorem mix_same {s : Str} {f : UInt8 → UInt8} {k : Nat} {x : UInt8} (h : s[k]? = some x) (e : f x = x) : ((s.take k).map f ++ s.drop k).map byteD = ((s.take (k + 1)).map f ++ s.drop (k + 1)).map byteD := by
  rw [dropc h, List.take_add_one, h]
  simp [e]
theorem byteD_eq (b : UInt8) : byteD b = .int .u8 b.toNat := rfl
def uppB (b : UInt8) : UInt8 := bif loI b.toNat then b - 32 else b
theorem lowB_val {x : UInt8} (c1 : decide ((65 : Int) ≤ x.toNat) = true) (c2 : decide ((x.toNat : Int) ≤ 90) = true) : IntKind.u8.wrap (IntKind.u8.wrap ((x.toNat : Int) - 65) + 97) = ((lowB x).toNat : Int) := by
  have c1 := of_decide_eq_true c1
  have c2 := of_decide_eq_true c2
  have h1 : x.toNat < 256 := x.toNat_lt
  have h2 : (lowB x).toNat = x.toNat + 32 := by
    simp only [lowB, upI, c1, c2, decide_true, Bool.and_true, cond_true]
    rw [UInt8.toNat_add]; show (x.toNat + 32) % 256 = _; omega
  simp only [IntKind.wrap_u8, h2]
  omega
theorem lowB_same1 {x : UInt8} (c1 : decide ((65 : Int) ≤ x.toNat) = false) : lowB x = x := by
  simp only [lowB, upI, c1, Bool.false_and, cond_false]
theorem lowB_same2 {x : UInt8} (c1 : decide ((x.toNat : Int) ≤ 90) = false) : lowB x = x := by
  simp only [lowB, upI, c1, Bool.and_false, cond_false]
theorem low164 (s : Str) (hs : s.length ≤ 100) : callP (XG G) TT 164 [.str s] = some (.str (s.map lowB)) := by
  refine callP_val T164 rfl (by simp only [go_sem]) ?_
  unfold Tryd.f164
  simp only [Option.getD_some]
  have h1 : (s.length ≤ 16777216) = True := by simp; omega
  simp +decide only[go_sem,reduceAdd,reduceMul,reduceSub,h1]
  refine gw h1 ?_
  refine wpI_loopC (T := Nat) [3, 8, 9, 10] rfl (by simp +decide only[go_sem,reduceAdd,reduceMul,reduceSub,h1]; exact rfl) (fun k => [(10, .int .i64 (k : Int))]) (fun _ => []) (fun k => ⟨[((s.take k).map lowB ++ s.drop k).map byteD], []⟩) (fun k => k ≤ s.length) (fun k => s.length - k) 0 (by simp +decide only[go_sem,reduceAdd,reduceMul,reduceSub,h1] <;> rfl) (by simp) ?_
  rintro k hk
  by_cases h : k < s.length
  · have l_x : ((k : Int) < ((s).length : Int)) = True := by simp; omega
    obtain ⟨x, g_x⟩ : ∃ a_, (s)[k]? = some a_ := ⟨_, List.getElem?_eq_getElem (by assumption)⟩
    have w_x := wrap_nat k (by omega)
    have hg := mix_get (f := lowB) g_x
    have hl : (((s.take k).map lowB ++ s.drop k).map byteD).length = s.length := mix_len
    repeat (first|(with_reducible first|refine q1 ?_|refine q2 ?_|refine q3 ?_|refine q4 ?_|refine q5 ?_|refine q6 ?_|refine q7 ?_|refine q8 ?_|refine q9 ?_|refine q10 ?_|refine q11 ?_|refine q12 (by decide) ?_)|((first|with_reducible refine q13 ?_|((with_reducible refine q14 ?_ ?_);focus exact rfl));intro K hK;simp +decide only[go_sem,reduceAdd,reduceMul,reduceSub,h1,l_x,g_x,w_x,hg,byteD_eq];with_reducible refine hK _ ?_;clear hK K)|(with_reducible refine q15 ?_;intro K J hK hJ;simp +decide only[go_sem,reduceAdd,reduceMul,reduceSub,h1,l_x,g_x,w_x,hg,byteD_eq];(with_reducible first|refine hK ?_|refine hJ ?_);clear hK hJ K J))
    cases c1 : (decide ((65 : Int) ≤ x.toNat))
    · repeat (first|(with_reducible first|refine q1 ?_|refine q2 ?_|refine q3 ?_|refine q4 ?_|refine q5 ?_|refine q6 ?_|refine q7 ?_|refine q8 ?_|refine q9 ?_|refine q10 ?_|refine q11 ?_|refine q12 (by decide) ?_)|((first|with_reducible refine q13 ?_|((with_reducible refine q14 ?_ ?_);focus exact rfl));intro K hK;simp +decide only[go_sem,reduceAdd,reduceMul,reduceSub,h1,l_x,g_x,w_x,hg,byteD_eq,c1];with_reducible refine hK _ ?_;clear hK K)|(with_reducible refine q15 ?_;intro K J hK hJ;simp +decide only[go_sem,reduceAdd,reduceMul,reduceSub,h1,l_x,g_x,w_x,hg,byteD_eq,c1];(with_reducible first|refine hK ?_|refine hJ ?_);clear hK hJ K J))
      rw [mix_same g_x (lowB_same1 c1)]
      exact ⟨(k + 1), by simp +decide only[go_sem,reduceAdd,reduceMul,reduceSub,h1,l_x,g_x,w_x,hg,byteD_eq,c1] <;> rfl, by omega, by omega⟩
    cases c2 : (decide ((x.toNat : Int) ≤ 90))
    · repeat (first|(with_reducible first|refine q1 ?_|refine q2 ?_|refine q3 ?_|refine q4 ?_|refine q5 ?_|refine q6 ?_|refine q7 ?_|refine q8 ?_|refine q9 ?_|refine q10 ?_|refine q11 ?_|refine q12 (by decide) ?_)|((first|with_reducible refine q13 ?_|((with_reducible refine q14 ?_ ?_);focus exact rfl));intro K hK;simp +decide only[go_sem,reduceAdd,reduceMul,reduceSub,h1,l_x,g_x,w_x,hg,byteD_eq,c1,c2];with_reducible refine hK _ ?_;clear hK K)|(with_reducible refine q15 ?_;intro K J hK hJ;simp +decide only[go_sem,reduceAdd,reduceMul,reduceSub,h1,l_x,g_x,w_x,hg,byteD_eq,c1,c2];(with_reducible first|refine hK ?_|refine hJ ?_);clear hK hJ K J))
      rw [mix_same g_x (lowB_same2 c2)]
      exact ⟨(k + 1), by simp +decide only[go_sem,reduceAdd,reduceMul,reduceSub,h1,l_x,g_x,w_x,hg,byteD_eq,c1,c2] <;> rfl, by omega, by omega⟩
    have hs1 := mix_set (f := lowB) g_x
    simp only [byteD_eq] at hs1
    have hv := lowB_val c1 c2
    have hle : (k + 1 ≤ s.length) = True := eq_true (by omega)
    repeat (first|(with_reducible first|refine q1 ?_|refine q2 ?_|refine q3 ?_|refine q4 ?_|refine q5 ?_|refine q6 ?_|refine q7 ?_|refine q8 ?_|refine q9 ?_|refine q10 ?_|refine q11 ?_|refine q12 (by decide) ?_)|((first|with_reducible refine q13 ?_|((with_reducible refine q14 ?_ ?_);focus exact rfl));intro K hK;simp +decide only[go_sem,reduceAdd,reduceMul,reduceSub,h1,l_x,g_x,w_x,hg,byteD_eq,c1,c2,hs1,hv,hl,hle];with_reducible refine hK _ ?_;clear hK K)|(with_reducible refine q15 ?_;intro K J hK hJ;simp +decide only[go_sem,reduceAdd,reduceMul,reduceSub,h1,l_x,g_x,w_x,hg,byteD_eq,c1,c2,hs1,hv,hl,hle];(with_reducible first|refine hK ?_|refine hJ ?_);clear hK hJ K J))
    exact ⟨(k + 1), by simp +decide only[go_sem,reduceAdd,reduceMul,reduceSub,h1,l_x,g_x,w_x,hg,byteD_eq,c1,c2,hs1,hv,hl,hle] <;> rfl, by omega, by omega⟩
  · have l_x : ((k : Int) < ((s).length : Int)) = False := by simp; omega
    obtain rfl : k = s.length := by omega
    rw [List.take_length, List.drop_length, List.append_nil]
    have hb : bytesOf (((s.map lowB).map byteD).take s.length) = some (s.map lowB) := by
      rw [List.take_of_length_le (by simp), bytesOf_map]
    have hle : (s.length ≤ ((s.map lowB).map byteD).length) = True := eq_true (by simp)
    repeat (first|(with_reducible first|refine q1 ?_|refine q2 ?_|refine q3 ?_|refine q4 ?_|refine q5 ?_|refine q6 ?_|refine q7 ?_|refine q8 ?_|refine q9 ?_|refine q10 ?_|refine q11 ?_|refine q12 (by decide) ?_)|((first|with_reducible refine q13 ?_|((with_reducible refine q14 ?_ ?_);focus exact rfl));intro K hK;simp +decide only[go_sem,reduceAdd,reduceMul,reduceSub,h1,l_x,List.drop_zero,hb,hle];with_reducible refine hK _ ?_;clear hK K)|(with_reducible refine q15 ?_;intro K J hK hJ;simp +decide only[go_sem,reduceAdd,reduceMul,reduceSub,h1,l_x,List.drop_zero,hb,hle];(with_reducible first|refine hK ?_|refine hJ ?_);clear hK hJ K J))
    simp +decide only[go_sem,reduceAdd,reduceMul,reduceSub,h1,l_x]
theorem uppB_val {x : UInt8} (c1 : decide ((97 : Int) ≤ x.toNat) = true) (c2 : decide ((x.toNat : Int) ≤ 122) = true) : IntKind.u8.wrap (IntKind.u8.wrap ((x.toNat : Int) - 97) + 65) = ((uppB x).toNat : Int) := by
  have c1 := of_decide_eq_true c1
  have c2 := of_decide_eq_true c2
  have h1 : x.toNat < 256 := x.toNat_lt
  have h2 : (uppB x).toNat = x.toNat - 32 := by
    simp only [uppB, loI, c1, c2, decide_true, Bool.and_true, cond_true]
    rw [UInt8.toNat_sub_of_le _ _ (by rw [UInt8.le_iff_toNat_le]; show 32 ≤ x.toNat; omega)]; rfl
  simp only [IntKind.wrap_u8, h2]
  omega
theorem uppB_same1 {x : UInt8} (c1 : decide ((97 : Int) ≤ x.toNat) = false) : uppB x = x := by
  simp only [uppB, loI, c1, Bool.false_and, cond_false]
theorem uppB_same2 {x : UInt8} (c1 : decide ((x.toNat : Int) ≤ 122) = false) : uppB x = x := by
  simp only [uppB, loI, c1, Bool.and_false, cond_false]
theorem upp183 (s : Str) (hs : s.length ≤ 100) : callP (XG G) TT 183 [.str s] = some (.str (s.map uppB)) := by
  refine callP_val T183 rfl (by simp only [go_sem]) ?_
  unfold Tryd.f183
  simp only [Option.getD_some]
  have h1 : (s.length ≤ 16777216) = True := by simp; omega
  simp +decide only[go_sem,reduceAdd,reduceMul,reduceSub,h1]
  refine gw h1 ?_
  refine wpI_loopC (T := Nat) [3, 8, 9, 10] rfl (by simp +decide only[go_sem,reduceAdd,reduceMul,reduceSub,h1]; exact rfl) (fun k => [(10, .int .i64 (k : Int))]) (fun _ => []) (fun k => ⟨[((s.take k).map uppB ++ s.drop k).map byteD], []⟩) (fun k => k ≤ s.length) (fun k => s.length - k) 0 (by simp +decide only[go_sem,reduceAdd,reduceMul,reduceSub,h1] <;> rfl) (by simp) ?_
  rintro k hk
  by_cases h : k < s.length
  · have l_x : ((k : Int) < ((s).length : Int)) = True := by simp; omega
    obtain ⟨x, g_x⟩ : ∃ a_, (s)[k]? = some a_ := ⟨_, List.getElem?_eq_getElem (by assumption)⟩
    have w_x := wrap_nat k (by omega)
    have hg := mix_get (f := uppB) g_x
    have hl : (((s.take k).map uppB ++ s.drop k).map byteD).length = s.length := mix_len
    repeat (first|(with_reducible first|refine q1 ?_|refine q2 ?_|refine q3 ?_|refine q4 ?_|refine q5 ?_|refine q6 ?_|refine q7 ?_|refine q8 ?_|refine q9 ?_|refine q10 ?_|refine q11 ?_|refine q12 (by decide) ?_)|((first|with_reducible refine q13 ?_|((with_reducible refine q14 ?_ ?_);focus exact rfl));intro K hK;simp +decide only[go_sem,reduceAdd,reduceMul,reduceSub,h1,l_x,g_x,w_x,hg,byteD_eq];with_reducible refine hK _ ?_;clear hK K)|(with_reducible refine q15 ?_;intro K J hK hJ;simp +decide only[go_sem,reduceAdd,reduceMul,reduceSub,h1,l_x,g_x,w_x,hg,byteD_eq];(with_reducible first|refine hK ?_|refine hJ ?_);clear hK hJ K J))
    cases c1 : (decide ((97 : Int) ≤ x.toNat))
    · repeat (first|(with_reducible first|refine q1 ?_|refine q2 ?_|refine q3 ?_|refine q4 ?_|refine q5 ?_|refine q6 ?_|refine q7 ?_|refine q8 ?_|refine q9 ?_|refine q10 ?_|refine q11 ?_|refine q12 (by decide) ?_)|((first|with_reducible refine q13 ?_|((with_reducible refine q14 ?_ ?_);focus exact rfl));intro K hK;simp +decide only[go_sem,reduceAdd,reduceMul,reduceSub,h1,l_x,g_x,w_x,hg,byteD_eq,c1];with_reducible refine hK _ ?_;clear hK K)|(with_reducible refine q15 ?_;intro K J hK hJ;simp +decide only[go_sem,reduceAdd,reduceMul,reduceSub,h1,l_x,g_x,w_x,hg,byteD_eq,c1];(with_reducible first|refine hK ?_|refine hJ ?_);clear hK hJ K J))
      rw [mix_same g_x (uppB_same1 c1)]
      exact ⟨(k + 1), by simp +decide only[go_sem,reduceAdd,reduceMul,reduceSub,h1,l_x,g_x,w_x,hg,byteD_eq,c1] <;> rfl, by omega, by omega⟩
    cases c2 : (decide ((x.toNat : Int) ≤ 122))
    · repeat (first|(with_reducible first|refine q1 ?_|refine q2 ?_|refine q3 ?_|refine q4 ?_|refine q5 ?_|refine q6 ?_|refine q7 ?_|refine q8 ?_|refine q9 ?_|refine q10 ?_|refine q11 ?_|refine q12 (by decide) ?_)|((first|with_reducible refine q13 ?_|((with_reducible refine q14 ?_ ?_);focus exact rfl));intro K hK;simp +decide only[go_sem,reduceAdd,reduceMul,reduceSub,h1,l_x,g_x,w_x,hg,byteD_eq,c1,c2];with_reducible refine hK _ ?_;clear hK K)|(with_reducible refine q15 ?_;intro K J hK hJ;simp +decide only[go_sem,reduceAdd,reduceMul,reduceSub,h1,l_x,g_x,w_x,hg,byteD_eq,c1,c2];(with_reducible first|refine hK ?_|refine hJ ?_);clear hK hJ K J))
      rw [mix_same g_x (uppB_same2 c2)]
      exact ⟨(k + 1), by simp +decide only[go_sem,reduceAdd,reduceMul,reduceSub,h1,l_x,g_x,w_x,hg,byteD_eq,c1,c2] <;> rfl, by omega, by omega⟩
    have hs1 := mix_set (f := uppB) g_x
    simp only [byteD_eq] at hs1
    have hv := uppB_val c1 c2
    have hle : (k + 1 ≤ s.length) = True := eq_true (by omega)
    repeat (first|(with_reducible first|refine q1 ?_|refine q2 ?_|refine q3 ?_|refine q4 ?_|refine q5 ?_|refine q6 ?_|refine q7 ?_|refine q8 ?_|refine q9 ?_|refine q10 ?_|refine q11 ?_|refine q12 (by decide) ?_)|((first|with_reducible refine q13 ?_|((with_reducible refine q14 ?_ ?_);focus exact rfl));intro K hK;simp +decide only[go_sem,reduceAdd,reduceMul,reduceSub,h1,l_x,g_x,w_x,hg,byteD_eq,c1,c2,hs1,hv,hl,hle];with_reducible refine hK _ ?_;clear hK K)|(with_reducible refine q15 ?_;intro K J hK hJ;simp +decide only[go_sem,reduceAdd,reduceMul,reduceSub,h1,l_x,g_x,w_x,hg,byteD_eq,c1,c2,hs1,hv,hl,hle];(with_reducible first|refine hK ?_|refine hJ ?_);clear hK hJ K J))
    exact ⟨(k + 1), by simp +decide only[go_sem,reduceAdd,reduceMul,reduceSub,h1,l_x,g_x,w_x,hg,byteD_eq,c1,c2,hs1,hv,hl,hle] <;> rfl, by omega, by omega⟩
  · have l_x : ((k : Int) < ((s).length : Int)) = False := by simp; omega
    obtain rfl : k = s.length := by omega
    rw [List.take_length, List.drop_length, List.append_nil]
    have hb : bytesOf (((s.map uppB).map byteD).take s.length) = some (s.map uppB) := by
      rw [List.take_of_length_le (by simp), bytesOf_map]
    have hle : (s.length ≤ ((s.map uppB).map byteD).length) = True := eq_true (by simp)
    repeat (first|(with_reducible first|refine q1 ?_|refine q2 ?_|refine q3 ?_|refine q4 ?_|refine q5 ?_|refine q6 ?_|refine q7 ?_|refine q8 ?_|refine q9 ?_|refine q10 ?_|refine q11 ?_|refine q12 (by decide) ?_)|((first|with_reducible refine q13 ?_|((with_reducible refine q14 ?_ ?_);focus exact rfl));intro K hK;simp +decide only[go_sem,reduceAdd,reduceMul,reduceSub,h1,l_x,List.drop_zero,hb,hle];with_reducible refine hK _ ?_;clear hK K)|(with_reducible refine q15 ?_;intro K J hK hJ;simp +decide only[go_sem,reduceAdd,reduceMul,reduceSub,h1,l_x,List.drop_zero,hb,hle];(with_reducible first|refine hK ?_|refine hJ ?_);clear hK hJ K J))
    simp +decide only[go_sem,reduceAdd,reduceMul,reduceSub,h1,l_x]
end Go.Eng
/- Keywords: binary search in the sorted list. -/
namespace Go.Eng
open Go Go.Proofs
open Nat (reduceAdd reduceMul reduceSub)
set_option maxRecDepth 20000
set_option maxHeartbeats 32000000
attribute [local irreducible] wpI endP
variable {G : Nat → Option (List D)}
theorem nan191 (a : Str) : callP (XG G) TT 191 [.str a] = some (.bool false) := by
  refine callP_val T191 rfl (by simp only [go_sem]) ?_
  unfold Tryd.f191
  simp only [Option.getD_some]
  simp +decide only[go_sem,reduceAdd,reduceMul,reduceSub]
  refine gw trivial ?_
  simp +decide only[go_sem,reduceAdd,reduceMul,reduceSub]
theorem nan189 (a : Str) : callP (XG G) TT 189 [.str a] = some (.bool false) := by
  refine callP_val T189 rfl (by simp only [go_sem]) ?_
  unfold Tryd.f189
  simp only [Option.getD_some]
  simp +decide only[go_sem,reduceAdd,reduceMul,reduceSub]
  refine gw trivial ?_
  simp +decide only[go_sem,reduceAdd,reduceMul,reduceSub]
theorem less188 (a b : Str) : callP (XG G) TT 188 [.str a, .str b] = some (.bool (Op.bytesLess a b)) := by
  refine callP_val T188 rfl (by simp only [go_sem]) ?_
  unfold Tryd.f188
  simp only [Option.getD_some]
  simp +decide only[go_sem,reduceAdd,reduceMul,reduceSub,nan191]
  repeat (first|(with_reducible first|refine q1 ?_|refine q2 ?_|refine q3 ?_|refine q4 ?_|refine q5 ?_|refine q6 ?_|refine q7 ?_|refine q8 ?_|refine q9 ?_|refine q10 ?_|refine q11 ?_|refine q12 (by decide) ?_)|((first|with_reducible refine q13 ?_|((with_reducible refine q14 ?_ ?_);focus exact rfl));intro K hK;simp +decide only[go_sem,reduceAdd,reduceMul,reduceSub,nan191];with_reducible refine hK _ ?_;clear hK K)|(with_reducible refine q15 ?_;intro K J hK hJ;simp +decide only[go_sem,reduceAdd,reduceMul,reduceSub,nan191];(with_reducible first|refine hK ?_|refine hJ ?_);clear hK hJ K J))
  simp +decide only[go_sem,reduceAdd,reduceMul,reduceSub,nan191]
def SortedS (l : List Str) : Prop := ∀ (i j : Nat) (x y : Str), i < j → l[i]? = some x → l[j]? = some y → Op.bytesLess x y = true
theorem search182 (l : List Str) (u : Str) (hn : l.length < 1000) (hs : SortedS l) (hi : ∀ x : Str, Op.bytesLess x x = false) (h5 : ∀ (i j : Nat) (x y : Str), i < j → l[i]? = some x → l[j]? = some y → Op.bytesLess y u = true → Op.bytesLess x u = true) : ∃ v, callP (XG G) TT 182 [.slice none 1 (l.map .str), .str u] = some v ∧ ∃ n b, v = .tuple [n, .bool b] ∧ (b = true ↔ u ∈ l) := by
  refine callP_body T182 rfl (by simp only [go_sem, stripFL_map D.str fun _ => rfl]) ?_
  unfold Tryd.f182
  simp only [Option.getD_some]
  simp +decide only[go_sem,reduceAdd,reduceMul,reduceSub,less188,nan189,List.length_map]
  repeat (first|(with_reducible first|refine q1 ?_|refine q2 ?_|refine q3 ?_|refine q4 ?_|refine q5 ?_|refine q6 ?_|refine q7 ?_|refine q8 ?_|refine q9 ?_|refine q10 ?_|refine q11 ?_|refine q12 (by decide) ?_)|((first|with_reducible refine q13 ?_|((with_reducible refine q14 ?_ ?_);focus exact rfl));intro K hK;simp +decide only[go_sem,reduceAdd,reduceMul,reduceSub,less188,nan189,List.length_map];with_reducible refine hK _ ?_;clear hK K)|(with_reducible refine q15 ?_;intro K J hK hJ;simp +decide only[go_sem,reduceAdd,reduceMul,reduceSub,less188,nan189,List.length_map];(with_reducible first|refine hK ?_|refine hJ ?_);clear hK hJ K J))
  refine wpI_loopC (T := Nat × Nat) [0, 1, 6, 7, 8] rfl (by simp +decide only[go_sem,reduceAdd,reduceMul,reduceSub,less188,nan189,List.length_map]; exact rfl) (fun p => [(7, .int .i64 (p.1 : Int)), (8, .int .i64 (p.2 : Int))]) (fun _ => []) (fun _ => ⟨[], []⟩) (fun p => p.1 ≤ p.2 ∧ p.2 ≤ l.length ∧ (∀ i x, i < p.1 → l[i]? = some x → Op.bytesLess x u = true) ∧ (∀ i x, p.2 ≤ i → l[i]? = some x → Op.bytesLess x u = false)) (fun p => p.2 - p.1) (0, l.length) (by simp +decide only[go_sem,reduceAdd,reduceMul,reduceSub,less188,nan189,List.length_map] <;> rfl) (by exact ⟨Nat.zero_le _, Nat.le_refl _, fun i x h => absurd h (Nat.not_lt_zero _), fun i x h h2 => by rw [List.getElem?_eq_none h] at h2; cases h2⟩) ?_
  rintro ⟨lo, hi'⟩ ⟨h1, h2, h3, h4⟩
  simp only at h1 h2 h3 h4 ⊢
  by_cases h : lo < hi'
  · have hc : ((lo : Int) < (hi' : Int)) = True := eq_true (by omega)
    have w1 : IntKind.i64.wrap ((lo : Int) + (hi' : Int)) = ((lo + hi' : Nat) : Int) := by rw [wrap_fit _ (by omega)]; omega
    have w2 : IntKind.u64.wrap ((lo + hi' : Nat) : Int) = ((lo + hi' : Nat) : Int) := by rw [wrap_u64']; omega
    have w3 : ((lo + hi' : Nat) : Int).fdiv (2 ^ min (Int.toNat 1) 64) = (((lo + hi') / 2 : Nat) : Int) := by
      show ((lo + hi' : Nat) : Int).fdiv 2 = _
      rw [Int.fdiv_eq_ediv_of_nonneg _ (by omega)]; rfl
    have w4 : IntKind.i64.wrap (((lo + hi') / 2 : Nat) : Int) = (((lo + hi') / 2 : Nat) : Int) := wrap_fit _ (by omega)
    have w5 := wrap_nat ((lo + hi') / 2) (by omega)
    have hm : (lo + hi') / 2 < l.length := by omega
    obtain ⟨x, hx⟩ : ∃ x, l[(lo + hi') / 2]? = some x := ⟨_, List.getElem?_eq_getElem hm⟩
    have hx' : (l.map D.str)[(lo + hi') / 2]? = some (D.str x) := by simp [hx]
    have hlo : lo ≤ (lo + hi') / 2 := by omega
    have hhi : (lo + hi') / 2 < hi' := by omega
    generalize (lo + hi') / 2 = md at *
    repeat (first|(with_reducible first|refine q1 ?_|refine q2 ?_|refine q3 ?_|refine q4 ?_|refine q5 ?_|refine q6 ?_|refine q7 ?_|refine q8 ?_|refine q9 ?_|refine q10 ?_|refine q11 ?_|refine q12 (by decide) ?_)|((first|with_reducible refine q13 ?_|((with_reducible refine q14 ?_ ?_);focus exact rfl));intro K hK;simp +decide only[go_sem,reduceAdd,reduceMul,reduceSub,less188,nan189,List.length_map,hc,w1,w2,w3,w4,w5,hx'];with_reducible refine hK _ ?_;clear hK K)|(with_reducible refine q15 ?_;intro K J hK hJ;simp +decide only[go_sem,reduceAdd,reduceMul,reduceSub,less188,nan189,List.length_map,hc,w1,w2,w3,w4,w5,hx'];(with_reducible first|refine hK ?_|refine hJ ?_);clear hK hJ K J))
    cases c : (Op.bytesLess x u)
    · repeat (first|(with_reducible first|refine q1 ?_|refine q2 ?_|refine q3 ?_|refine q4 ?_|refine q5 ?_|refine q6 ?_|refine q7 ?_|refine q8 ?_|refine q9 ?_|refine q10 ?_|refine q11 ?_|refine q12 (by decide) ?_)|((first|with_reducible refine q13 ?_|((with_reducible refine q14 ?_ ?_);focus exact rfl));intro K hK;simp +decide only[go_sem,reduceAdd,reduceMul,reduceSub,less188,nan189,List.length_map,hc,w1,w2,w3,w4,w5,hx',c];with_reducible refine hK _ ?_;clear hK K)|(with_reducible refine q15 ?_;intro K J hK hJ;simp +decide only[go_sem,reduceAdd,reduceMul,reduceSub,less188,nan189,List.length_map,hc,w1,w2,w3,w4,w5,hx',c];(with_reducible first|refine hK ?_|refine hJ ?_);clear hK hJ K J))
      refine ⟨(lo, md), by simp +decide only[go_sem,reduceAdd,reduceMul,reduceSub,less188,nan189,List.length_map,hc,w1,w2,w3,w4,w5,hx',c] <;> rfl, ⟨by simp only; omega, by simp only; omega, h3, fun i y hi1 hy => ?_⟩, by simp only; omega⟩
      simp only at hi1
      by_cases e : i = md
      · subst e; rw [hx] at hy; cases hy; exact c
      · cases c2 : Op.bytesLess y u
        · rfl
        · exact absurd (h5 _ _ _ _ (by omega) hx hy c2) (by rw [c]; decide)
    · repeat (first|(with_reducible first|refine q1 ?_|refine q2 ?_|refine q3 ?_|refine q4 ?_|refine q5 ?_|refine q6 ?_|refine q7 ?_|refine q8 ?_|refine q9 ?_|refine q10 ?_|refine q11 ?_|refine q12 (by decide) ?_)|((first|with_reducible refine q13 ?_|((with_reducible refine q14 ?_ ?_);focus exact rfl));intro K hK;simp +decide only[go_sem,reduceAdd,reduceMul,reduceSub,less188,nan189,List.length_map,hc,w1,w2,w3,w4,w5,hx',c];with_reducible refine hK _ ?_;clear hK K)|(with_reducible refine q15 ?_;intro K J hK hJ;simp +decide only[go_sem,reduceAdd,reduceMul,reduceSub,less188,nan189,List.length_map,hc,w1,w2,w3,w4,w5,hx',c];(with_reducible first|refine hK ?_|refine hJ ?_);clear hK hJ K J))
      refine ⟨(md + 1, hi'), by simp +decide only[go_sem,reduceAdd,reduceMul,reduceSub,less188,nan189,List.length_map,hc,w1,w2,w3,w4,w5,hx',c] <;> rfl, ⟨by simp only; omega, h2, fun i y hi1 hy => ?_, h4⟩, by simp only; omega⟩
      simp only at hi1
      by_cases e : i = md
      · subst e; rw [hx] at hy; cases hy; exact c
      · exact h5 _ _ _ _ (by omega) hy hx c
  · obtain rfl : lo = hi' := by omega
    have hc : ((lo : Int) < (lo : Int)) = False := eq_false (by omega)
    by_cases hl : lo < l.length
    · have hl' : ((lo : Int) < (l.length : Int)) = True := eq_true (by omega)
      obtain ⟨x, hx⟩ : ∃ x, l[lo]? = some x := ⟨_, List.getElem?_eq_getElem hl⟩
      have hx' : (l.map D.str)[lo]? = some (D.str x) := by simp [hx]
      repeat (first|(with_reducible first|refine q1 ?_|refine q2 ?_|refine q3 ?_|refine q4 ?_|refine q5 ?_|refine q6 ?_|refine q7 ?_|refine q8 ?_|refine q9 ?_|refine q10 ?_|refine q11 ?_|refine q12 (by decide) ?_)|((first|with_reducible refine q13 ?_|((with_reducible refine q14 ?_ ?_);focus exact rfl));intro K hK;simp +decide only[go_sem,reduceAdd,reduceMul,reduceSub,less188,nan189,List.length_map,hc,hl',hx'];with_reducible refine hK _ ?_;clear hK K)|(with_reducible refine q15 ?_;intro K J hK hJ;simp +decide only[go_sem,reduceAdd,reduceMul,reduceSub,less188,nan189,List.length_map,hc,hl',hx'];(with_reducible first|refine hK ?_|refine hJ ?_);clear hK hJ K J))
      cases c : (x == u)
      · repeat (first|(with_reducible first|refine q1 ?_|refine q2 ?_|refine q3 ?_|refine q4 ?_|refine q5 ?_|refine q6 ?_|refine q7 ?_|refine q8 ?_|refine q9 ?_|refine q10 ?_|refine q11 ?_|refine q12 (by decide) ?_)|((first|with_reducible refine q13 ?_|((with_reducible refine q14 ?_ ?_);focus exact rfl));intro K hK;simp +decide only[go_sem,reduceAdd,reduceMul,reduceSub,less188,nan189,List.length_map,hc,hl',hx',c];with_reducible refine hK _ ?_;clear hK K)|(with_reducible refine q15 ?_;intro K J hK hJ;simp +decide only[go_sem,reduceAdd,reduceMul,reduceSub,less188,nan189,List.length_map,hc,hl',hx',c];(with_reducible first|refine hK ?_|refine hJ ?_);clear hK hJ K J))
        simp +decide only[go_sem,reduceAdd,reduceMul,reduceSub,less188,nan189,List.length_map,hc,hl',hx',c]
        refine ⟨_, _, rfl, ⟨fun h => by (first | cases h | simp at h), fun hm => ?_⟩⟩
        obtain ⟨j, hj⟩ := List.getElem?_of_mem hm
        rcases Nat.lt_trichotomy j lo with h | h | h
        · exact absurd (h3 j u h hj) (by rw [hi]; decide)
        · subst h; rw [hx] at hj; cases hj; simp at c
        · exact absurd (hs _ _ _ _ h hx hj) (by rw [h4 lo x (Nat.le_refl _) hx]; decide)
      · repeat (first|(with_reducible first|refine q1 ?_|refine q2 ?_|refine q3 ?_|refine q4 ?_|refine q5 ?_|refine q6 ?_|refine q7 ?_|refine q8 ?_|refine q9 ?_|refine q10 ?_|refine q11 ?_|refine q12 (by decide) ?_)|((first|with_reducible refine q13 ?_|((with_reducible refine q14 ?_ ?_);focus exact rfl));intro K hK;simp +decide only[go_sem,reduceAdd,reduceMul,reduceSub,less188,nan189,List.length_map,hc,hl',hx',c];with_reducible refine hK _ ?_;clear hK K)|(with_reducible refine q15 ?_;intro K J hK hJ;simp +decide only[go_sem,reduceAdd,reduceMul,reduceSub,less188,nan189,List.length_map,hc,hl',hx',c];(with_reducible first|refine hK ?_|refine hJ ?_);clear hK hJ K J))
        simp +decide only[go_sem,reduceAdd,reduceMul,reduceSub,less188,nan189,List.length_map,hc,hl',hx',c]
        exact ⟨_, _, rfl, ⟨fun _ => by rw [← eq_of_beq c]; exact List.mem_of_getElem? hx, fun _ => rfl⟩⟩
    · have hl' : ((lo : Int) < (l.length : Int)) = False := eq_false (by omega)
      repeat (first|(with_reducible first|refine q1 ?_|refine q2 ?_|refine q3 ?_|refine q4 ?_|refine q5 ?_|refine q6 ?_|refine q7 ?_|refine q8 ?_|refine q9 ?_|refine q10 ?_|refine q11 ?_|refine q12 (by decide) ?_)|((first|with_reducible refine q13 ?_|((with_reducible refine q14 ?_ ?_);focus exact rfl));intro K hK;simp +decide only[go_sem,reduceAdd,reduceMul,reduceSub,less188,nan189,List.length_map,hc,hl'];with_reducible refine hK _ ?_;clear hK K)|(with_reducible refine q15 ?_;intro K J hK hJ;simp +decide only[go_sem,reduceAdd,reduceMul,reduceSub,less188,nan189,List.length_map,hc,hl'];(with_reducible first|refine hK ?_|refine hJ ?_);clear hK hJ K J))
      simp +decide only[go_sem,reduceAdd,reduceMul,reduceSub,less188,nan189,List.length_map,hc]
      refine ⟨_, _, rfl, ⟨fun h => by (first | cases h | simp at h), fun hm => ?_⟩⟩
      obtain ⟨j, hj⟩ := List.getElem?_of_mem hm
      have := (List.getElem?_eq_some_iff.1 hj).1
      exact absurd (h3 j u (by omega) hj) (by rw [hi]; decide)
end Go.Eng
