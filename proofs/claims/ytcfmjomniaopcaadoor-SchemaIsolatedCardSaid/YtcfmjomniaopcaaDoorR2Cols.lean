/- A part of the proof: see the last text. -/
import Derived.Test.YtcfmjomniaopcaaDoorR2Func
set_option linter.unusedSimpArgs false
set_option linter.unusedVariables false
/- Columns, lists of names and of numbers. -/
namespace Go.Eng
open Go Go.Proofs
open Nat (reduceAdd reduceMul reduceSub)
set_option maxRecDepth 20000
set_option maxHeartbeats 32000000
attribute [local irreducible] wpI endP
variable {G : Nat → Option (List D)}
/-- A column is valid. -/
def colB (c : Col) : Bool := nameB c.name && (bif c.a.1 == 1 then decide (-2147483648 ≤ c.b.1) && (decide (c.b.1 ≤ c.c.1) && (decide (c.c.1 ≤ 2147483647) && c.d.1 == 0)) else bif c.a.1 == 2 then decide (1 ≤ c.d.1) && (decide (c.d.1 ≤ 16) && (c.b.1 == 0 && c.c.1 == 0)) else false)
theorem col105 (c : Col) (hs : c.name.length ≤ 100) : callP (XG GK) TT 105 [encCol c] = some (.bool (colB c)) := by
  refine callP_val T105 rfl (by simp only [go_sem]) ?_
  unfold Tryd.f105
  simp only [Option.getD_some]
  have c1 := name104 c.name hs
  simp +decide only[go_sem,reduceAdd,reduceMul,reduceSub,c1]
  refine gw c1 ?_
  cases n : (nameB c.name)
  · refine gw (an c1 n) ?_
    simp +decide only[go_sem,reduceAdd,reduceMul,reduceSub,c1,n]
    simp only [c1, n, colB, cond_true, cond_false, Bool.true_and, Bool.false_and, Bool.and_true, Bool.and_false, Bool.true_or, Bool.false_or, Bool.or_true, Bool.or_false, Bool.not_true, Bool.not_false, Bool.or_self, Bool.and_self, Bool.not_not]
  cases t1 : (c.a.1 == 1)
  · cases t2 : (c.a.1 == 2)
    · refine gw (an c1 (an n (an t1 t2))) ?_
      simp +decide only[go_sem,reduceAdd,reduceMul,reduceSub,c1,n,t1,t2]
      simp only [c1, n, t1, t2, colB, cond_true, cond_false, Bool.true_and, Bool.false_and, Bool.and_true, Bool.and_false, Bool.true_or, Bool.false_or, Bool.or_true, Bool.or_false, Bool.not_true, Bool.not_false, Bool.or_self, Bool.and_self, Bool.not_not]
    · cases a1 : (decide (1 ≤ c.d.1))
      · refine gw (an c1 (an n (an t1 (an t2 a1)))) ?_
        simp +decide only[go_sem,reduceAdd,reduceMul,reduceSub,c1,n,t1,t2,a1]
        simp only [c1, n, t1, t2, a1, colB, cond_true, cond_false, Bool.true_and, Bool.false_and, Bool.and_true, Bool.and_false, Bool.true_or, Bool.false_or, Bool.or_true, Bool.or_false, Bool.not_true, Bool.not_false, Bool.or_self, Bool.and_self, Bool.not_not]
      cases a2 : (decide (c.d.1 ≤ 16))
      · refine gw (an c1 (an n (an t1 (an t2 (an a1 a2))))) ?_
        simp +decide only[go_sem,reduceAdd,reduceMul,reduceSub,c1,n,t1,t2,a1,a2]
        simp only [c1, n, t1, t2, a1, a2, colB, cond_true, cond_false, Bool.true_and, Bool.false_and, Bool.and_true, Bool.and_false, Bool.true_or, Bool.false_or, Bool.or_true, Bool.or_false, Bool.not_true, Bool.not_false, Bool.or_self, Bool.and_self, Bool.not_not]
      cases a3 : (c.b.1 == 0)
      · refine gw (an c1 (an n (an t1 (an t2 (an a1 (an a2 a3)))))) ?_
        simp +decide only[go_sem,reduceAdd,reduceMul,reduceSub,c1,n,t1,t2,a1,a2,a3]
        simp only [c1, n, t1, t2, a1, a2, a3, colB, cond_true, cond_false, Bool.true_and, Bool.false_and, Bool.and_true, Bool.and_false, Bool.true_or, Bool.false_or, Bool.or_true, Bool.or_false, Bool.not_true, Bool.not_false, Bool.or_self, Bool.and_self, Bool.not_not]
      refine gw (an c1 (an n (an t1 (an t2 (an a1 (an a2 a3)))))) ?_
      simp +decide only[go_sem,reduceAdd,reduceMul,reduceSub,c1,n,t1,t2,a1,a2,a3]
      simp only [c1, n, t1, t2, a1, a2, a3, colB, cond_true, cond_false, Bool.true_and, Bool.false_and, Bool.and_true, Bool.and_false, Bool.true_or, Bool.false_or, Bool.or_true, Bool.or_false, Bool.not_true, Bool.not_false, Bool.or_self, Bool.and_self, Bool.not_not]
  · cases a1 : (decide (-2147483648 ≤ c.b.1))
    · refine gw (an c1 (an n (an t1 a1))) ?_
      simp +decide only[go_sem,reduceAdd,reduceMul,reduceSub,c1,n,t1,a1]
      simp only [c1, n, t1, a1, colB, cond_true, cond_false, Bool.true_and, Bool.false_and, Bool.and_true, Bool.and_false, Bool.true_or, Bool.false_or, Bool.or_true, Bool.or_false, Bool.not_true, Bool.not_false, Bool.or_self, Bool.and_self, Bool.not_not]
    cases a2 : (decide (c.b.1 ≤ c.c.1))
    · refine gw (an c1 (an n (an t1 (an a1 a2)))) ?_
      simp +decide only[go_sem,reduceAdd,reduceMul,reduceSub,c1,n,t1,a1,a2]
      simp only [c1, n, t1, a1, a2, colB, cond_true, cond_false, Bool.true_and, Bool.false_and, Bool.and_true, Bool.and_false, Bool.true_or, Bool.false_or, Bool.or_true, Bool.or_false, Bool.not_true, Bool.not_false, Bool.or_self, Bool.and_self, Bool.not_not]
    cases a3 : (decide (c.c.1 ≤ 2147483647))
    · refine gw (an c1 (an n (an t1 (an a1 (an a2 a3))))) ?_
      simp +decide only[go_sem,reduceAdd,reduceMul,reduceSub,c1,n,t1,a1,a2,a3]
      simp only [c1, n, t1, a1, a2, a3, colB, cond_true, cond_false, Bool.true_and, Bool.false_and, Bool.and_true, Bool.and_false, Bool.true_or, Bool.false_or, Bool.or_true, Bool.or_false, Bool.not_true, Bool.not_false, Bool.or_self, Bool.and_self, Bool.not_not]
    refine gw (an c1 (an n (an t1 (an a1 (an a2 a3))))) ?_
    simp +decide only[go_sem,reduceAdd,reduceMul,reduceSub,c1,n,t1,a1,a2,a3]
    simp only [c1, n, t1, a1, a2, a3, colB, cond_true, cond_false, Bool.true_and, Bool.false_and, Bool.and_true, Bool.and_false, Bool.true_or, Bool.false_or, Bool.or_true, Bool.or_false, Bool.not_true, Bool.not_false, Bool.or_self, Bool.and_self, Bool.not_not]
theorem col125 (c : Col) (hs : c.name.length ≤ 100) : callP (XG GK) TT 125 [encCol c] = some (.bool (colB c)) := by
  refine callP_val T125 rfl (by simp only [go_sem]) ?_
  unfold Tryd.f125
  simp only [Option.getD_some]
  have c1 := name123 c.name hs
  simp +decide only[go_sem,reduceAdd,reduceMul,reduceSub,c1]
  refine gw c1 ?_
  cases n : (nameB c.name)
  · refine gw (an c1 n) ?_
    simp +decide only[go_sem,reduceAdd,reduceMul,reduceSub,c1,n]
    simp only [c1, n, colB, cond_true, cond_false, Bool.true_and, Bool.false_and, Bool.and_true, Bool.and_false, Bool.true_or, Bool.false_or, Bool.or_true, Bool.or_false, Bool.not_true, Bool.not_false, Bool.or_self, Bool.and_self, Bool.not_not]
  cases t1 : (c.a.1 == 1)
  · cases t2 : (c.a.1 == 2)
    · refine gw (an c1 (an n (an t1 t2))) ?_
      simp +decide only[go_sem,reduceAdd,reduceMul,reduceSub,c1,n,t1,t2]
      simp only [c1, n, t1, t2, colB, cond_true, cond_false, Bool.true_and, Bool.false_and, Bool.and_true, Bool.and_false, Bool.true_or, Bool.false_or, Bool.or_true, Bool.or_false, Bool.not_true, Bool.not_false, Bool.or_self, Bool.and_self, Bool.not_not]
    · cases a1 : (decide (1 ≤ c.d.1))
      · refine gw (an c1 (an n (an t1 (an t2 a1)))) ?_
        simp +decide only[go_sem,reduceAdd,reduceMul,reduceSub,c1,n,t1,t2,a1]
        simp only [c1, n, t1, t2, a1, colB, cond_true, cond_false, Bool.true_and, Bool.false_and, Bool.and_true, Bool.and_false, Bool.true_or, Bool.false_or, Bool.or_true, Bool.or_false, Bool.not_true, Bool.not_false, Bool.or_self, Bool.and_self, Bool.not_not]
      cases a2 : (decide (c.d.1 ≤ 16))
      · refine gw (an c1 (an n (an t1 (an t2 (an a1 a2))))) ?_
        simp +decide only[go_sem,reduceAdd,reduceMul,reduceSub,c1,n,t1,t2,a1,a2]
        simp only [c1, n, t1, t2, a1, a2, colB, cond_true, cond_false, Bool.true_and, Bool.false_and, Bool.and_true, Bool.and_false, Bool.true_or, Bool.false_or, Bool.or_true, Bool.or_false, Bool.not_true, Bool.not_false, Bool.or_self, Bool.and_self, Bool.not_not]
      cases a3 : (c.b.1 == 0)
      · refine gw (an c1 (an n (an t1 (an t2 (an a1 (an a2 a3)))))) ?_
        simp +decide only[go_sem,reduceAdd,reduceMul,reduceSub,c1,n,t1,t2,a1,a2,a3]
        simp only [c1, n, t1, t2, a1, a2, a3, colB, cond_true, cond_false, Bool.true_and, Bool.false_and, Bool.and_true, Bool.and_false, Bool.true_or, Bool.false_or, Bool.or_true, Bool.or_false, Bool.not_true, Bool.not_false, Bool.or_self, Bool.and_self, Bool.not_not]
      refine gw (an c1 (an n (an t1 (an t2 (an a1 (an a2 a3)))))) ?_
      simp +decide only[go_sem,reduceAdd,reduceMul,reduceSub,c1,n,t1,t2,a1,a2,a3]
      simp only [c1, n, t1, t2, a1, a2, a3, colB, cond_true, cond_false, Bool.true_and, Bool.false_and, Bool.and_true, Bool.and_false, Bool.true_or, Bool.false_or, Bool.or_true, Bool.or_false, Bool.not_true, Bool.not_false, Bool.or_self, Bool.and_self, Bool.not_not]
  · cases a1 : (decide (-2147483648 ≤ c.b.1))
    · refine gw (an c1 (an n (an t1 a1))) ?_
      simp +decide only[go_sem,reduceAdd,reduceMul,reduceSub,c1,n,t1,a1]
      simp only [c1, n, t1, a1, colB, cond_true, cond_false, Bool.true_and, Bool.false_and, Bool.and_true, Bool.and_false, Bool.true_or, Bool.false_or, Bool.or_true, Bool.or_false, Bool.not_true, Bool.not_false, Bool.or_self, Bool.and_self, Bool.not_not]
    cases a2 : (decide (c.b.1 ≤ c.c.1))
    · refine gw (an c1 (an n (an t1 (an a1 a2)))) ?_
      simp +decide only[go_sem,reduceAdd,reduceMul,reduceSub,c1,n,t1,a1,a2]
      simp only [c1, n, t1, a1, a2, colB, cond_true, cond_false, Bool.true_and, Bool.false_and, Bool.and_true, Bool.and_false, Bool.true_or, Bool.false_or, Bool.or_true, Bool.or_false, Bool.not_true, Bool.not_false, Bool.or_self, Bool.and_self, Bool.not_not]
    cases a3 : (decide (c.c.1 ≤ 2147483647))
    · refine gw (an c1 (an n (an t1 (an a1 (an a2 a3))))) ?_
      simp +decide only[go_sem,reduceAdd,reduceMul,reduceSub,c1,n,t1,a1,a2,a3]
      simp only [c1, n, t1, a1, a2, a3, colB, cond_true, cond_false, Bool.true_and, Bool.false_and, Bool.and_true, Bool.and_false, Bool.true_or, Bool.false_or, Bool.or_true, Bool.or_false, Bool.not_true, Bool.not_false, Bool.or_self, Bool.and_self, Bool.not_not]
    refine gw (an c1 (an n (an t1 (an a1 (an a2 a3))))) ?_
    simp +decide only[go_sem,reduceAdd,reduceMul,reduceSub,c1,n,t1,a1,a2,a3]
    simp only [c1, n, t1, a1, a2, a3, colB, cond_true, cond_false, Bool.true_and, Bool.false_and, Bool.and_true, Bool.and_false, Bool.true_or, Bool.false_or, Bool.or_true, Bool.or_false, Bool.not_true, Bool.not_false, Bool.or_self, Bool.and_self, Bool.not_not]
/-- An element occurs twice. -/
def dupF {α : Type} (e : α → α → Bool) (seen : List α) : List α → Bool
  | [] => false
  | a :: r => seen.any (fun s => e a s) || dupF e (seen ++ [a]) r
def dupS (l : List Str) : Bool := dupF (fun a b => a == b) [] l
def dupI (l : List I64) : Bool := dupF (fun a b => a.1 == b.1) [] l
theorem dupF_step {α : Type} {e : α → α → Bool} {l : List α} {k : Nat} {x : α} (h : l[k]? = some x) : dupF e (l.take k) (l.drop k) = ((l.take k).any (fun s => e x s) || dupF e (l.take (k + 1)) (l.drop (k + 1))) := by
  rw [dropc h, dupF, List.take_add_one, h]; rfl
theorem rep126 (s : Sl Str) : callP (XG G) TT 126 [sl 1 S s] = some (.bool (dupS s.items)) := by
  refine callP_val T126 rfl (by simp only [go_sem]) ?_
  unfold Tryd.f126
  simp only [Option.getD_some]
  have hlt := s.lt
  simp +decide only[go_sem,reduceAdd,reduceMul,reduceSub]
  refine gw trivial ?_
  refine wpI_loopC (T := Nat) [0, 5, 6, 7] rfl (by simp +decide only[go_sem,reduceAdd,reduceMul,reduceSub]; exact rfl) (fun k => [(7, .int .i64 (k : Int))]) (fun _ => []) (fun _ => ⟨[], []⟩) (fun k => k ≤ s.items.length ∧ dupF (fun a b => a == b) (s.items.take k) (s.items.drop k) = dupS s.items) (fun k => s.items.length - k) 0 (by simp +decide only[go_sem,reduceAdd,reduceMul,reduceSub] <;> rfl) (by exact ⟨Nat.zero_le _, rfl⟩) ?_
  rintro k ⟨hk, hP⟩
  by_cases h : k < s.items.length
  · have l_x : ((k : Int) < ((s.items).length : Int)) = True := by simp; omega
    obtain ⟨x, g_x⟩ : ∃ a_, (s.items)[k]? = some a_ := ⟨_, List.getElem?_eq_getElem (by assumption)⟩
    have w_x := wrap_nat k (by omega)
    rw [dupF_step g_x] at hP
    have c1 := slcI_sl (P := Tryd.prog) (t := 25) (k := 1) S s (i := k) ty_ss_25 (by omega)
    have c2 := ct168 (s.take k) x (G := G)
    rw [Sl.take_items] at c2
    refine gw (an l_x (an g_x (an w_x (an c1 c2)))) ?_
    cases c : ((s.items.take k).any fun y => x == y)
    · rw [c, Bool.false_or] at hP
      refine gw (an l_x (an g_x (an w_x (an c1 (an c2 c))))) ?_
      exact ⟨k + 1, by simp +decide only[go_sem,reduceAdd,reduceMul,reduceSub,l_x,g_x,w_x,c1,c2,c] <;> rfl, ⟨by omega, hP⟩, by omega⟩
    · rw [c, Bool.true_or] at hP
      refine gw (an l_x (an g_x (an w_x (an c1 (an c2 c))))) ?_
      simp +decide only[go_sem,reduceAdd,reduceMul,reduceSub,l_x,g_x,w_x,c1,c2,c]
      rw [← hP]
  · have l_x : ((k : Int) < ((s.items).length : Int)) = False := by simp; omega
    rw [List.drop_eq_nil_of_le (by omega), dupF] at hP
    refine gw l_x ?_
    simp +decide only[go_sem,reduceAdd,reduceMul,reduceSub,l_x]
    rw [← hP]
theorem twice106 (s : Sl Str) : callP (XG G) TT 106 [sl 1 S s] = some (.bool (dupS s.items)) := by
  refine callP_val T106 rfl (by simp only [go_sem]) ?_
  unfold Tryd.f106
  simp only [Option.getD_some]
  have hlt := s.lt
  simp +decide only[go_sem,reduceAdd,reduceMul,reduceSub]
  refine gw trivial ?_
  refine wpI_loopC (T := Nat) [0, 3] rfl (by simp +decide only[go_sem,reduceAdd,reduceMul,reduceSub]; exact rfl) (fun k => [(3, .int .i64 (k : Int))]) (fun _ => []) (fun _ => ⟨[], []⟩) (fun k => k ≤ s.items.length ∧ dupF (fun a b => a == b) (s.items.take k) (s.items.drop k) = dupS s.items) (fun k => s.items.length - k) 0 (by simp +decide only[go_sem,reduceAdd,reduceMul,reduceSub] <;> rfl) (by exact ⟨Nat.zero_le _, rfl⟩) ?_
  rintro k ⟨hk, hP⟩
  by_cases h : k < s.items.length
  · have l_x : ((k : Int) < ((s.items).length : Int)) = True := by simp; omega
    obtain ⟨x, g_x⟩ : ∃ a_, (s.items)[k]? = some a_ := ⟨_, List.getElem?_eq_getElem (by assumption)⟩
    have w_x := wrap_nat k (by omega)
    rw [dupF_step g_x] at hP
    refine gw (an l_x (an g_x w_x)) ?_
    refine wpI_loopC (T := Nat) [0, 3, 4] rfl (by simp +decide only[go_sem,reduceAdd,reduceMul,reduceSub,l_x,g_x,w_x]; exact rfl) (fun j => [(4, .int .i64 (j : Int))]) (fun _ => []) (fun _ => ⟨[], []⟩) (fun j => j ≤ k ∧ ((s.items.take j).any fun y => x == y) = false) (fun j => k - j) 0 (by simp +decide only[go_sem,reduceAdd,reduceMul,reduceSub,l_x,g_x,w_x] <;> rfl) (by simp) ?_
    rintro j ⟨hj, hQ⟩
    by_cases h2 : j < k
    · have l2 : ((j : Int) < (k : Int)) = True := eq_true (by omega)
      have h3 : j < s.items.length := by omega
      have l_y : ((j : Int) < ((s.items).length : Int)) = True := by simp; omega
      obtain ⟨y, g_y⟩ : ∃ a_, (s.items)[j]? = some a_ := ⟨_, List.getElem?_eq_getElem (by assumption)⟩
      have w_y := wrap_nat j (by omega)
      cases c : (x == y)
      · refine gw (an l_x (an g_x (an w_x (an l_y (an g_y (an w_y (an l2 c))))))) ?_
        refine ⟨j + 1, by simp +decide only[go_sem,reduceAdd,reduceMul,reduceSub,l_x,g_x,w_x,l_y,g_y,w_y,l2,c] <;> rfl, ⟨by omega, ?_⟩, by omega⟩
        rw [List.take_add_one, g_y, List.any_append, hQ]
        simp [c]
      · refine gw (an l_x (an g_x (an w_x (an l_y (an g_y (an w_y (an l2 c))))))) ?_
        simp +decide only[go_sem,reduceAdd,reduceMul,reduceSub,l_x,g_x,w_x,l_y,g_y,w_y,l2,c]
        have : ((s.items.take k).any fun y => x == y) = true := by
          rw [List.any_eq_true]
          exact ⟨y, List.mem_of_getElem? (i := j) (by rw [List.getElem?_take, if_pos h2, g_y]), c⟩
        rw [this, Bool.true_or] at hP
        rw [← hP]
    · have l2 : ((j : Int) < (k : Int)) = False := eq_false (by omega)
      obtain rfl : j = k := by omega
      rw [hQ, Bool.false_or] at hP
      refine gw (an l_x (an g_x (an w_x l2))) ?_
      exact ⟨j + 1, by simp +decide only[go_sem,reduceAdd,reduceMul,reduceSub,l_x,g_x,w_x] <;> rfl, ⟨by omega, hP⟩, by omega⟩
  · have l_x : ((k : Int) < ((s.items).length : Int)) = False := by simp; omega
    rw [List.drop_eq_nil_of_le (by omega), dupF] at hP
    refine gw l_x ?_
    simp +decide only[go_sem,reduceAdd,reduceMul,reduceSub,l_x]
    rw [← hP]
end Go.Eng
