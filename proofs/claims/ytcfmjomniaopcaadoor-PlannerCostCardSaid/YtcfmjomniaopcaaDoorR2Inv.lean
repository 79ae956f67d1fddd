/- A part of the proof: see the last text. -/
import Derived.Test.YtcfmjomniaopcaaDoorR2Eqs
import Derived.Test.YtcfmjomniaopcaaDoorKR2SmallT
set_option linter.unusedSimpArgs false
set_option linter.unusedVariables false
/- The form of a definition: the program's shape and the reference's invalid. -/
namespace Go.Eng
open Go Go.Proofs
open Nat (reduceAdd reduceMul reduceSub)
set_option maxRecDepth 20000
set_option maxHeartbeats 32000000
theorem all_take {α : Type} {p : α → Bool} {l : List α} {k : Nat} {x : α} (h : (l.take k).all p = true) (g : l[k]? = some x) (hx : p x = true) : (l.take (k + 1)).all p = true := by
  rw [List.take_add_one, g, List.all_append, h]; simp [hx]
theorem all_bad {α : Type} {p : α → Bool} {l : List α} {k : Nat} {x : α} (g : l[k]? = some x) (hx : p x = false) : l.all p = false := by
  cases h : l.all p
  · rfl
  · rw [List.all_eq_true.1 h x (List.mem_of_getElem? g)] at hx; cases hx
def neB (k : Sl Str) : Bool := !((k.items.length : Int) == 0)
def fgB (f : FgS) : Bool := !((f.cols.items.length : Int) == 0) && ((f.cols.items.length : Int) == (f.refs.items.length : Int))
def okB (x : Stm) : Bool := nameB x.name && (!((x.cols.items.length : Int) == 0) && (x.cols.items.all colB && (x.keys.items.all neB && x.fgns.items.all fgB)))
theorem inv57 (x : Stm) (hx : SmallS x) : callP (XG GK) TT 57 [encStm x] = some (.bool (!okB x)) := by
  obtain ⟨x1, x2, x3, x4, x5, x6, x7, x8, x9⟩ := hx
  refine callP_val T57 rfl (by simp only [go_sem]) ?_
  unfold Tryd.f57
  simp only [Option.getD_some]
  have c1 := name104 x.name (by omega)
  simp +decide only[go_sem,reduceAdd,reduceMul,reduceSub,c1]
  refine gw c1 ?_
  cases n : (nameB x.name)
  · refine gw (an c1 n) ?_
    simp +decide only[go_sem,reduceAdd,reduceMul,reduceSub,c1,n]
    simp only [c1, n, okB, cond_true, cond_false, Bool.true_and, Bool.false_and, Bool.and_true, Bool.and_false, Bool.true_or, Bool.false_or, Bool.or_true, Bool.or_false, Bool.not_true, Bool.not_false, Bool.or_self, Bool.and_self, Bool.not_not]
  cases n2 : ((x.cols.items.length : Int) == 0)
  · refine gw (an c1 (an n n2)) ?_
    refine wpI_loopC (T := Nat) [3, 4] rfl (by simp +decide only[go_sem,reduceAdd,reduceMul,reduceSub,c1,n,n2]; exact rfl) (fun k => [(4, .int .i64 (k : Int))]) (fun _ => []) (fun _ => ⟨[], []⟩) (fun k => k ≤ x.cols.items.length ∧ (x.cols.items.take k).all colB = true) (fun k => x.cols.items.length - k) 0 (by simp +decide only[go_sem,reduceAdd,reduceMul,reduceSub,c1,n,n2] <;> rfl) (by simp) ?_
    rintro k1 ⟨hk1, hP1⟩
    by_cases h1 : k1 < x.cols.items.length
    · have l_y : ((k1 : Int) < ((x.cols.items).length : Int)) = True := by simp; omega
      obtain ⟨y, g_y⟩ : ∃ a_, (x.cols.items)[k1]? = some a_ := ⟨_, List.getElem?_eq_getElem (by assumption)⟩
      have w_y := wrap_nat k1 (by omega)
      have hc := col105 y (by have := x6 y (List.mem_of_getElem? g_y); omega)
      simp only [encCol_eq] at hc
      cases o : (colB y)
      · refine gw (an c1 (an n (an n2 (an l_y (an g_y (an w_y (an hc o))))))) ?_
        simp +decide only[go_sem,reduceAdd,reduceMul,reduceSub,c1,n,n2,l_y,g_y,w_y,hc,o]
        have := all_bad g_y o
        simp only [c1, n, n2, l_y, g_y, w_y, hc, o, okB, this, cond_true, cond_false, Bool.true_and, Bool.false_and, Bool.and_true, Bool.and_false, Bool.true_or, Bool.false_or, Bool.or_true, Bool.or_false, Bool.not_true, Bool.not_false, Bool.or_self, Bool.and_self, Bool.not_not]
      · refine gw (an c1 (an n (an n2 (an l_y (an g_y (an w_y (an hc o))))))) ?_
        exact ⟨k1 + 1, by simp +decide only[go_sem,reduceAdd,reduceMul,reduceSub,c1,n,n2,l_y,g_y,w_y,hc,o] <;> rfl, ⟨by omega, all_take hP1 g_y o⟩, by omega⟩
    have l_e1 : ((k1 : Int) < ((x.cols.items).length : Int)) = False := by simp; omega
    rw [List.take_of_length_le (by omega)] at hP1
    refine gw (an c1 (an n (an n2 l_e1))) ?_
    refine wpI_loopC (T := Nat) [3, 5] rfl (by simp +decide only[go_sem,reduceAdd,reduceMul,reduceSub,c1,n,n2,l_e1]; exact rfl) (fun k => [(5, .int .i64 (k : Int))]) (fun _ => []) (fun _ => ⟨[], []⟩) (fun k => k ≤ x.keys.items.length ∧ (x.keys.items.take k).all neB = true) (fun k => x.keys.items.length - k) 0 (by simp +decide only[go_sem,reduceAdd,reduceMul,reduceSub,c1,n,n2,l_e1] <;> rfl) (by simp) ?_
    rintro k2 ⟨hk2, hP2⟩
    by_cases h2 : k2 < x.keys.items.length
    · have l_y : ((k2 : Int) < ((x.keys.items).length : Int)) = True := by simp; omega
      obtain ⟨y, g_y⟩ : ∃ a_, (x.keys.items)[k2]? = some a_ := ⟨_, List.getElem?_eq_getElem (by assumption)⟩
      have w_y := wrap_nat k2 (by omega)
      cases o : ((y.items.length : Int) == 0)
      · refine gw (an c1 (an n (an n2 (an l_e1 (an l_y (an g_y (an w_y o))))))) ?_
        exact ⟨k2 + 1, by simp +decide only[go_sem,reduceAdd,reduceMul,reduceSub,c1,n,n2,l_e1,l_y,g_y,w_y,o] <;> rfl, ⟨by omega, all_take hP2 g_y (by rw [neB, o]; rfl)⟩, by omega⟩
      · refine gw (an c1 (an n (an n2 (an l_e1 (an l_y (an g_y (an w_y o))))))) ?_
        simp +decide only[go_sem,reduceAdd,reduceMul,reduceSub,c1,n,n2,l_e1,l_y,g_y,w_y,o]
        have := all_bad (p := neB) g_y (by rw [neB, o]; rfl)
        simp only [c1, n, n2, l_e1, l_y, g_y, w_y, o, okB, this, cond_true, cond_false, Bool.true_and, Bool.false_and, Bool.and_true, Bool.and_false, Bool.true_or, Bool.false_or, Bool.or_true, Bool.or_false, Bool.not_true, Bool.not_false, Bool.or_self, Bool.and_self, Bool.not_not]
    have l_e2 : ((k2 : Int) < ((x.keys.items).length : Int)) = False := by simp; omega
    rw [List.take_of_length_le (by omega)] at hP2
    refine gw (an c1 (an n (an n2 (an l_e1 l_e2)))) ?_
    refine wpI_loopC (T := Nat) [3, 6] rfl (by simp +decide only[go_sem,reduceAdd,reduceMul,reduceSub,c1,n,n2,l_e1,l_e2]; exact rfl) (fun k => [(6, .int .i64 (k : Int))]) (fun _ => []) (fun _ => ⟨[], []⟩) (fun k => k ≤ x.fgns.items.length ∧ (x.fgns.items.take k).all fgB = true) (fun k => x.fgns.items.length - k) 0 (by simp +decide only[go_sem,reduceAdd,reduceMul,reduceSub,c1,n,n2,l_e1,l_e2] <;> rfl) (by simp) ?_
    rintro k3 ⟨hk3, hP3⟩
    by_cases h3 : k3 < x.fgns.items.length
    · have l_y : ((k3 : Int) < ((x.fgns.items).length : Int)) = True := by simp; omega
      obtain ⟨y, g_y⟩ : ∃ a_, (x.fgns.items)[k3]? = some a_ := ⟨_, List.getElem?_eq_getElem (by assumption)⟩
      have w_y := wrap_nat k3 (by omega)
      cases o : ((y.cols.items.length : Int) == 0)
      · cases o2 : ((y.cols.items.length : Int) == (y.refs.items.length : Int))
        · have o3 : ((y.cols.items.length : Int) != (y.refs.items.length : Int)) = true := by rw [bne, o2]; rfl
          repeat (first|(with_reducible first|refine q1 ?_|refine q2 ?_|refine q3 ?_|refine q4 ?_|refine q5 ?_|refine q6 ?_|refine q7 ?_|refine q8 ?_|refine q9 ?_|refine q10 ?_|refine q11 ?_|refine q12 (by decide) ?_)|((first|with_reducible refine q13 ?_|((with_reducible refine q14 ?_ ?_);focus exact rfl));intro K hK;simp +decide only[go_sem,reduceAdd,reduceMul,reduceSub,c1,n,n2,l_e1,l_e2,l_y,g_y,w_y,o,o2,o3];with_reducible refine hK _ ?_;clear hK K)|(with_reducible refine q15 ?_;intro K J hK hJ;simp +decide only[go_sem,reduceAdd,reduceMul,reduceSub,c1,n,n2,l_e1,l_e2,l_y,g_y,w_y,o,o2,o3];(with_reducible first|refine hK ?_|refine hJ ?_);clear hK hJ K J))
          simp +decide only[go_sem,reduceAdd,reduceMul,reduceSub,c1,n,n2,l_e1,l_e2,l_y,g_y,w_y,o,o2]
          have := all_bad (p := fgB) g_y (by rw [fgB, o, o2]; rfl)
          simp only [c1, n, n2, l_e1, l_e2, l_y, g_y, w_y, o, o2, okB, this, cond_true, cond_false, Bool.true_and, Bool.false_and, Bool.and_true, Bool.and_false, Bool.true_or, Bool.false_or, Bool.or_true, Bool.or_false, Bool.not_true, Bool.not_false, Bool.or_self, Bool.and_self, Bool.not_not]
        · have o3 : ((y.cols.items.length : Int) != (y.refs.items.length : Int)) = false := by rw [bne, o2]; rfl
          repeat (first|(with_reducible first|refine q1 ?_|refine q2 ?_|refine q3 ?_|refine q4 ?_|refine q5 ?_|refine q6 ?_|refine q7 ?_|refine q8 ?_|refine q9 ?_|refine q10 ?_|refine q11 ?_|refine q12 (by decide) ?_)|((first|with_reducible refine q13 ?_|((with_reducible refine q14 ?_ ?_);focus exact rfl));intro K hK;simp +decide only[go_sem,reduceAdd,reduceMul,reduceSub,c1,n,n2,l_e1,l_e2,l_y,g_y,w_y,o,o2,o3];with_reducible refine hK _ ?_;clear hK K)|(with_reducible refine q15 ?_;intro K J hK hJ;simp +decide only[go_sem,reduceAdd,reduceMul,reduceSub,c1,n,n2,l_e1,l_e2,l_y,g_y,w_y,o,o2,o3];(with_reducible first|refine hK ?_|refine hJ ?_);clear hK hJ K J))
          exact ⟨k3 + 1, by simp +decide only[go_sem,reduceAdd,reduceMul,reduceSub,c1,n,n2,l_e1,l_e2,l_y,g_y,w_y,o,o2] <;> rfl, ⟨by omega, all_take hP3 g_y (by rw [fgB, o, o2]; rfl)⟩, by omega⟩
      · refine gw (an c1 (an n (an n2 (an l_e1 (an l_e2 (an l_y (an g_y (an w_y o)))))))) ?_
        simp +decide only[go_sem,reduceAdd,reduceMul,reduceSub,c1,n,n2,l_e1,l_e2,l_y,g_y,w_y,o]
        have := all_bad (p := fgB) g_y (by rw [fgB, o]; rfl)
        simp only [c1, n, n2, l_e1, l_e2, l_y, g_y, w_y, o, okB, this, cond_true, cond_false, Bool.true_and, Bool.false_and, Bool.and_true, Bool.and_false, Bool.true_or, Bool.false_or, Bool.or_true, Bool.or_false, Bool.not_true, Bool.not_false, Bool.or_self, Bool.and_self, Bool.not_not]
    have l_e3 : ((k3 : Int) < ((x.fgns.items).length : Int)) = False := by simp; omega
    rw [List.take_of_length_le (by omega)] at hP3
    refine gw (an c1 (an n (an n2 (an l_e1 (an l_e2 l_e3))))) ?_
    simp +decide only[go_sem,reduceAdd,reduceMul,reduceSub,c1,n,n2,l_e1,l_e2,l_e3]
    simp only [c1, n, n2, l_e1, l_e2, l_e3, okB, hP1, hP2, hP3, cond_true, cond_false, Bool.true_and, Bool.false_and, Bool.and_true, Bool.and_false, Bool.true_or, Bool.false_or, Bool.or_true, Bool.or_false, Bool.not_true, Bool.not_false, Bool.or_self, Bool.and_self, Bool.not_not]
  · refine gw (an c1 (an n n2)) ?_
    simp +decide only[go_sem,reduceAdd,reduceMul,reduceSub,c1,n,n2]
    simp only [c1, n, n2, okB, cond_true, cond_false, Bool.true_and, Bool.false_and, Bool.and_true, Bool.and_false, Bool.true_or, Bool.false_or, Bool.or_true, Bool.or_false, Bool.not_true, Bool.not_false, Bool.or_self, Bool.and_self, Bool.not_not]
def bigB (x : Stm) : Bool := decide (8 < x.cols.items.length) || (decide (4 < x.keys.items.length) || (decide (4 < x.fgns.items.length) || decide (4 < x.checks.items.length)))
def shI (x : Stm) : Int := bif bigB x then 3 else bif okB x then 0 else 1
end Go.Eng
