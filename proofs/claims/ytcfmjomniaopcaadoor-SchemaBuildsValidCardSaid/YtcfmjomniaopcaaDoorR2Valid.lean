/- A part of the proof: see the last text. -/
import Derived.Test.YtcfmjomniaopcaaDoorR2Tbl
set_option linter.unusedSimpArgs false
set_option linter.unusedVariables false
/- schema.Valid. -/
namespace Go.Eng
open Go Go.Proofs
/-- The names of numbers of columns. -/
def nameAt (cols : List Col) (x : I64) : Str := match atI cols x.1 with | some c => c.name | none => []
def inB (n : Nat) (c : I64) : Bool := decide (0 ≤ c.1) && decide (c.1 < (n : Int))
def cofB (cols : List Col) (l : List I64) : Bool := decide ((0 : Int) < (l.length : Int)) && (!dupI l && l.all (inB cols.length))
theorem atI_lt {α : Type} {l : List α} {n : Int} (h0 : 0 ≤ n) (h1 : n < (l.length : Int)) : ∃ a, atI l n = some a := by
  obtain ⟨k, rfl⟩ : ∃ k : Nat, n = k := ⟨n.toNat, by omega⟩
  exact ⟨_, List.getElem?_eq_getElem (l := l) (i := k) (by omega)⟩
theorem cof_in {cols : List Col} {l : List I64} (h : cofB cols l = true) : inC cols l := by
  simp only [cofB, Bool.and_eq_true] at h
  intro x hx
  have := List.all_eq_true.1 h.2.2 x hx
  simp only [inB, Bool.and_eq_true, decide_eq_true_eq] at this
  exact atI_lt this.1 this.2
set_option maxRecDepth 20000 in
set_option maxHeartbeats 8000000 in
theorem in171 (t : Tbl) (x : I64) (m : Mem) (id : Nat) (hm : m.boxes[id]? = some [.str t.name, sl 6 encCol t.cols, sl 1 (sl 1 I) t.keys, sl 3 encFgn t.fgns, sl 8 encEx t.checks]) : callR (XG GK) TT 171 m [I x, .ptr id 0] = some (.bool (inB t.cols.items.length x), m) := by
  refine callR_val T171 rfl ?_
  unfold Tryd.f171
  simp only [Option.getD_some]
  unfold inB
  by_cases c : (0 : Int) ≤ x.1
  · simp (decide:=true) only[go_sem,Nat.reduceAdd,Nat.reduceMul,Nat.reduceSub,hm,c]
    repeat (first|(with_reducible first|refine q1 ?_|refine q2 ?_|refine q3 ?_|refine q4 ?_|refine q5 ?_|refine q6 ?_|refine q7 ?_|refine q8 ?_|refine q9 ?_|refine q10 ?_|refine q11 ?_|refine q12 (by decide) ?_)|((first|with_reducible refine q13 ?_|((with_reducible refine q14 ?_ ?_);focus exact rfl));intro K hK;simp (decide:=true) only[go_sem,Nat.reduceAdd,Nat.reduceMul,Nat.reduceSub,hm,c];with_reducible refine hK _ ?_;clear hK K)|(with_reducible refine q15 ?_;intro K J hK hJ;simp (decide:=true) only[go_sem,Nat.reduceAdd,Nat.reduceMul,Nat.reduceSub,hm,c];(with_reducible first|refine hK ?_|refine hJ ?_);clear hK hJ K J))
    (simp (decide:=true) only[go_sem,Nat.reduceAdd,Nat.reduceMul,Nat.reduceSub,hm,c]) <;> (try (simp only [hm, c, cond_true, cond_false, Bool.true_and, Bool.false_and, Bool.and_true, Bool.and_false, Bool.true_or, Bool.false_or, Bool.or_true, Bool.or_false, Bool.not_true, Bool.not_false, Bool.or_self, Bool.and_self, Bool.not_not])) <;> (first | exact ⟨trivial, trivial⟩ | exact ⟨rfl, trivial⟩ | rfl | (simp; done))
  · simp (decide:=true) only[go_sem,Nat.reduceAdd,Nat.reduceMul,Nat.reduceSub,hm,c]
    repeat (first|(with_reducible first|refine q1 ?_|refine q2 ?_|refine q3 ?_|refine q4 ?_|refine q5 ?_|refine q6 ?_|refine q7 ?_|refine q8 ?_|refine q9 ?_|refine q10 ?_|refine q11 ?_|refine q12 (by decide) ?_)|((first|with_reducible refine q13 ?_|((with_reducible refine q14 ?_ ?_);focus exact rfl));intro K hK;simp (decide:=true) only[go_sem,Nat.reduceAdd,Nat.reduceMul,Nat.reduceSub,hm,c];with_reducible refine hK _ ?_;clear hK K)|(with_reducible refine q15 ?_;intro K J hK hJ;simp (decide:=true) only[go_sem,Nat.reduceAdd,Nat.reduceMul,Nat.reduceSub,hm,c];(with_reducible first|refine hK ?_|refine hJ ?_);clear hK hJ K J))
    (simp (decide:=true) only[go_sem,Nat.reduceAdd,Nat.reduceMul,Nat.reduceSub,hm,c]) <;> (try (simp only [hm, c, cond_true, cond_false, Bool.true_and, Bool.false_and, Bool.and_true, Bool.and_false, Bool.true_or, Bool.false_or, Bool.or_true, Bool.or_false, Bool.not_true, Bool.not_false, Bool.or_self, Bool.and_self, Bool.not_not])) <;> (first | exact ⟨trivial, trivial⟩ | exact ⟨rfl, trivial⟩ | rfl | (simp; done))
set_option maxRecDepth 20000 in
set_option maxHeartbeats 8000000 in
theorem cof128 (t : Tbl) (l : Sl I64) : callP (XG GK) TT 128 [encTbl t, sl 1 I l] = some (.bool (cofB t.cols.items l.items)) := by
  refine callP_val T128 rfl (by simp only [go_sem]) ?_
  unfold Tryd.f128
  simp only [Option.getD_some]
  have c1 := rep169 (G := GK) l
  have c2 := all170 l 171 [.ptr 0 0] ⟨[[.str t.name, sl 6 encCol t.cols, sl 1 (sl 1 I) t.keys, sl 3 encFgn t.fgns, sl 8 encEx t.checks]], []⟩ (inB t.cols.items.length) (eq_true (by decide)) fun x _ => in171 t x _ 0 rfl
  unfold cofB
  by_cases c : (0 : Int) < (l.items.length : Int)
  · cases d : (dupI l.items)
    · simp (decide:=true) only[go_sem,Nat.reduceAdd,Nat.reduceMul,Nat.reduceSub,callR_own pf169,c1,c2,c,d]
      repeat (first|(with_reducible first|refine q1 ?_|refine q2 ?_|refine q3 ?_|refine q4 ?_|refine q5 ?_|refine q6 ?_|refine q7 ?_|refine q8 ?_|refine q9 ?_|refine q10 ?_|refine q11 ?_|refine q12 (by decide) ?_)|((first|with_reducible refine q13 ?_|((with_reducible refine q14 ?_ ?_);focus exact rfl));intro K hK;simp (decide:=true) only[go_sem,Nat.reduceAdd,Nat.reduceMul,Nat.reduceSub,callR_own pf169,c1,c2,c,d];with_reducible refine hK _ ?_;clear hK K)|(with_reducible refine q15 ?_;intro K J hK hJ;simp (decide:=true) only[go_sem,Nat.reduceAdd,Nat.reduceMul,Nat.reduceSub,callR_own pf169,c1,c2,c,d];(with_reducible first|refine hK ?_|refine hJ ?_);clear hK hJ K J))
      (simp (decide:=true) only[go_sem,Nat.reduceAdd,Nat.reduceMul,Nat.reduceSub,callR_own pf169,c1,c2,c,d]) <;> (try (simp only [callR_own pf169, c1, c2, c, d, cond_true, cond_false, Bool.true_and, Bool.false_and, Bool.and_true, Bool.and_false, Bool.true_or, Bool.false_or, Bool.or_true, Bool.or_false, Bool.not_true, Bool.not_false, Bool.or_self, Bool.and_self, Bool.not_not])) <;> (first | exact ⟨trivial, trivial⟩ | exact ⟨rfl, trivial⟩ | rfl | (simp; done))
    · simp (decide:=true) only[go_sem,Nat.reduceAdd,Nat.reduceMul,Nat.reduceSub,callR_own pf169,c1,c2,c,d]
      repeat (first|(with_reducible first|refine q1 ?_|refine q2 ?_|refine q3 ?_|refine q4 ?_|refine q5 ?_|refine q6 ?_|refine q7 ?_|refine q8 ?_|refine q9 ?_|refine q10 ?_|refine q11 ?_|refine q12 (by decide) ?_)|((first|with_reducible refine q13 ?_|((with_reducible refine q14 ?_ ?_);focus exact rfl));intro K hK;simp (decide:=true) only[go_sem,Nat.reduceAdd,Nat.reduceMul,Nat.reduceSub,callR_own pf169,c1,c2,c,d];with_reducible refine hK _ ?_;clear hK K)|(with_reducible refine q15 ?_;intro K J hK hJ;simp (decide:=true) only[go_sem,Nat.reduceAdd,Nat.reduceMul,Nat.reduceSub,callR_own pf169,c1,c2,c,d];(with_reducible first|refine hK ?_|refine hJ ?_);clear hK hJ K J))
      (simp (decide:=true) only[go_sem,Nat.reduceAdd,Nat.reduceMul,Nat.reduceSub,callR_own pf169,c1,c2,c,d]) <;> (try (simp only [callR_own pf169, c1, c2, c, d, cond_true, cond_false, Bool.true_and, Bool.false_and, Bool.and_true, Bool.and_false, Bool.true_or, Bool.false_or, Bool.or_true, Bool.or_false, Bool.not_true, Bool.not_false, Bool.or_self, Bool.and_self, Bool.not_not])) <;> (first | exact ⟨trivial, trivial⟩ | exact ⟨rfl, trivial⟩ | rfl | (simp; done))
  · simp (decide:=true) only[go_sem,Nat.reduceAdd,Nat.reduceMul,Nat.reduceSub,callR_own pf169,c1,c2,c]
    repeat (first|(with_reducible first|refine q1 ?_|refine q2 ?_|refine q3 ?_|refine q4 ?_|refine q5 ?_|refine q6 ?_|refine q7 ?_|refine q8 ?_|refine q9 ?_|refine q10 ?_|refine q11 ?_|refine q12 (by decide) ?_)|((first|with_reducible refine q13 ?_|((with_reducible refine q14 ?_ ?_);focus exact rfl));intro K hK;simp (decide:=true) only[go_sem,Nat.reduceAdd,Nat.reduceMul,Nat.reduceSub,callR_own pf169,c1,c2,c];with_reducible refine hK _ ?_;clear hK K)|(with_reducible refine q15 ?_;intro K J hK hJ;simp (decide:=true) only[go_sem,Nat.reduceAdd,Nat.reduceMul,Nat.reduceSub,callR_own pf169,c1,c2,c];(with_reducible first|refine hK ?_|refine hJ ?_);clear hK hJ K J))
    (simp (decide:=true) only[go_sem,Nat.reduceAdd,Nat.reduceMul,Nat.reduceSub,callR_own pf169,c1,c2,c]) <;> (try (simp only [callR_own pf169, c1, c2, c, cond_true, cond_false, Bool.true_and, Bool.false_and, Bool.and_true, Bool.and_false, Bool.true_or, Bool.false_or, Bool.or_true, Bool.or_false, Bool.not_true, Bool.not_false, Bool.or_self, Bool.and_self, Bool.not_not])) <;> (first | exact ⟨trivial, trivial⟩ | exact ⟨rfl, trivial⟩ | rfl | (simp; done))
set_option maxRecDepth 20000 in
set_option maxHeartbeats 8000000 in
theorem eq129 (a b : Sl I64) (m : Mem) (id : Nat) (hm : m.boxes[id]? = some [sl 1 I b]) : callR (XG GK) TT 129 m [sl 1 I a, .ptr id 0] = some (.bool (eqI a.items b.items), m) := by
  refine callR_val T129 rfl ?_
  unfold Tryd.f129
  simp only [Option.getD_some]
  have c := equal120 (G := GK) a b
  simp (decide:=true) only[go_sem,Nat.reduceAdd,Nat.reduceMul,Nat.reduceSub,hm,callR_own pf120,c]
  repeat (first|(with_reducible first|refine q1 ?_|refine q2 ?_|refine q3 ?_|refine q4 ?_|refine q5 ?_|refine q6 ?_|refine q7 ?_|refine q8 ?_|refine q9 ?_|refine q10 ?_|refine q11 ?_|refine q12 (by decide) ?_)|((first|with_reducible refine q13 ?_|((with_reducible refine q14 ?_ ?_);focus exact rfl));intro K hK;simp (decide:=true) only[go_sem,Nat.reduceAdd,Nat.reduceMul,Nat.reduceSub,hm,callR_own pf120,c];with_reducible refine hK _ ?_;clear hK K)|(with_reducible refine q15 ?_;intro K J hK hJ;simp (decide:=true) only[go_sem,Nat.reduceAdd,Nat.reduceMul,Nat.reduceSub,hm,callR_own pf120,c];(with_reducible first|refine hK ?_|refine hJ ?_);clear hK hJ K J))
  simp (decide:=true) only[go_sem,Nat.reduceAdd,Nat.reduceMul,Nat.reduceSub,hm,callR_own pf120,c]
/-- Is a foreign key right? -/
def fgV (s : List Tbl) (n : Nat) (t : Tbl) (f : Fgn) : Bool :=
  cofB t.cols.items f.cols.items && (decide (0 ≤ f.table.1) && (decide (f.table.1 ≤ (n : Int)) && (decide (0 ≤ f.key.1) && match atI s f.table.1 with
    | some u => (match atI u.keys.items f.key.1 with
      | some k => ((k.items.length : Int) == (f.cols.items.length : Int)) && (cofB u.cols.items k.items && typF u.cols.items t.cols.items k.items f.cols.items)
      | none => false)
    | none => false)))
set_option maxRecDepth 20000 in
set_option maxHeartbeats 16000000 in
theorem vfg130 (s : Sl Tbl) (n : Nat) (t : Tbl) (f : Fgn) (hn : n < s.items.length) (m : Mem) (i j k : Nat) (hi : m.boxes[i]? = some [.str t.name, sl 6 encCol t.cols, sl 1 (sl 1 I) t.keys, sl 3 encFgn t.fgns, sl 8 encEx t.checks]) (hj : m.boxes[j]? = some [.int .i64 (n : Int)]) (hk : m.boxes[k]? = some [sl 5 encTbl s]) :
    callR (XG GK) TT 130 m [encFgn f, .ptr i 0, .ptr j 0, .ptr k 0] = some (.bool (fgV s.items n t f), m) := by
  refine callR_val T130 rfl ?_
  unfold Tryd.f130
  simp only [Option.getD_some]
  have c1 := cof128 t f.cols
  simp only [encTbl_eq] at c1
  have hslt := s.lt
  have hin := @cof_in t.cols.items f.cols.items
  unfold fgV
  cases b1 : (cofB t.cols.items f.cols.items)
  · simp (decide:=true) only[go_sem,Nat.reduceAdd,Nat.reduceMul,Nat.reduceSub,hi,hj,hk,callR_own pf128,callR_own pf102,c1,b1]
    repeat (first|(with_reducible first|refine q1 ?_|refine q2 ?_|refine q3 ?_|refine q4 ?_|refine q5 ?_|refine q6 ?_|refine q7 ?_|refine q8 ?_|refine q9 ?_|refine q10 ?_|refine q11 ?_|refine q12 (by decide) ?_)|((first|with_reducible refine q13 ?_|((with_reducible refine q14 ?_ ?_);focus exact rfl));intro K hK;simp (decide:=true) only[go_sem,Nat.reduceAdd,Nat.reduceMul,Nat.reduceSub,hi,hj,hk,callR_own pf128,callR_own pf102,c1,b1];with_reducible refine hK _ ?_;clear hK K)|(with_reducible refine q15 ?_;intro K J hK hJ;simp (decide:=true) only[go_sem,Nat.reduceAdd,Nat.reduceMul,Nat.reduceSub,hi,hj,hk,callR_own pf128,callR_own pf102,c1,b1];(with_reducible first|refine hK ?_|refine hJ ?_);clear hK hJ K J))
    (simp (decide:=true) only[go_sem,Nat.reduceAdd,Nat.reduceMul,Nat.reduceSub,hi,hj,hk,callR_own pf128,callR_own pf102,c1,b1]) <;> (try (simp only [hi, hj, hk, callR_own pf128, callR_own pf102, c1, b1, cond_true, cond_false, Bool.true_and, Bool.false_and, Bool.and_true, Bool.and_false, Bool.true_or, Bool.false_or, Bool.or_true, Bool.or_false, Bool.not_true, Bool.not_false, Bool.or_self, Bool.and_self, Bool.not_not])) <;> (first | exact ⟨trivial, trivial⟩ | exact ⟨rfl, trivial⟩ | rfl | (simp; done))
  have hin := hin b1
  by_cases b2 : (f.table.1 : Int) < 0
  · simp (decide:=true) only[go_sem,Nat.reduceAdd,Nat.reduceMul,Nat.reduceSub,hi,hj,hk,callR_own pf128,callR_own pf102,c1,b1,b2]
    repeat (first|(with_reducible first|refine q1 ?_|refine q2 ?_|refine q3 ?_|refine q4 ?_|refine q5 ?_|refine q6 ?_|refine q7 ?_|refine q8 ?_|refine q9 ?_|refine q10 ?_|refine q11 ?_|refine q12 (by decide) ?_)|((first|with_reducible refine q13 ?_|((with_reducible refine q14 ?_ ?_);focus exact rfl));intro K hK;simp (decide:=true) only[go_sem,Nat.reduceAdd,Nat.reduceMul,Nat.reduceSub,hi,hj,hk,callR_own pf128,callR_own pf102,c1,b1,b2];with_reducible refine hK _ ?_;clear hK K)|(with_reducible refine q15 ?_;intro K J hK hJ;simp (decide:=true) only[go_sem,Nat.reduceAdd,Nat.reduceMul,Nat.reduceSub,hi,hj,hk,callR_own pf128,callR_own pf102,c1,b1,b2];(with_reducible first|refine hK ?_|refine hJ ?_);clear hK hJ K J))
    rw [decide_eq_false (show ¬ (0 : Int) ≤ f.table.1 by omega)]
    (simp (decide:=true) only[go_sem,Nat.reduceAdd,Nat.reduceMul,Nat.reduceSub,hi,hj,hk,callR_own pf128,callR_own pf102,c1,b1,b2]) <;> (try (simp only [hi, hj, hk, callR_own pf128, callR_own pf102, c1, b1, b2, cond_true, cond_false, Bool.true_and, Bool.false_and, Bool.and_true, Bool.and_false, Bool.true_or, Bool.false_or, Bool.or_true, Bool.or_false, Bool.not_true, Bool.not_false, Bool.or_self, Bool.and_self, Bool.not_not])) <;> (first | exact ⟨trivial, trivial⟩ | exact ⟨rfl, trivial⟩ | rfl | (simp; done))
  rw [decide_eq_true (show (0 : Int) ≤ f.table.1 by omega)]
  by_cases b3 : (n : Int) < (f.table.1 : Int)
  · simp (decide:=true) only[go_sem,Nat.reduceAdd,Nat.reduceMul,Nat.reduceSub,hi,hj,hk,callR_own pf128,callR_own pf102,c1,b1,b2,b3]
    repeat (first|(with_reducible first|refine q1 ?_|refine q2 ?_|refine q3 ?_|refine q4 ?_|refine q5 ?_|refine q6 ?_|refine q7 ?_|refine q8 ?_|refine q9 ?_|refine q10 ?_|refine q11 ?_|refine q12 (by decide) ?_)|((first|with_reducible refine q13 ?_|((with_reducible refine q14 ?_ ?_);focus exact rfl));intro K hK;simp (decide:=true) only[go_sem,Nat.reduceAdd,Nat.reduceMul,Nat.reduceSub,hi,hj,hk,callR_own pf128,callR_own pf102,c1,b1,b2,b3];with_reducible refine hK _ ?_;clear hK K)|(with_reducible refine q15 ?_;intro K J hK hJ;simp (decide:=true) only[go_sem,Nat.reduceAdd,Nat.reduceMul,Nat.reduceSub,hi,hj,hk,callR_own pf128,callR_own pf102,c1,b1,b2,b3];(with_reducible first|refine hK ?_|refine hJ ?_);clear hK hJ K J))
    rw [decide_eq_false (show ¬ f.table.1 ≤ (n : Int) by omega)]
    (simp (decide:=true) only[go_sem,Nat.reduceAdd,Nat.reduceMul,Nat.reduceSub,hi,hj,hk,callR_own pf128,callR_own pf102,c1,b1,b2,b3]) <;> (try (simp only [hi, hj, hk, callR_own pf128, callR_own pf102, c1, b1, b2, b3, cond_true, cond_false, Bool.true_and, Bool.false_and, Bool.and_true, Bool.and_false, Bool.true_or, Bool.false_or, Bool.or_true, Bool.or_false, Bool.not_true, Bool.not_false, Bool.or_self, Bool.and_self, Bool.not_not])) <;> (first | exact ⟨trivial, trivial⟩ | exact ⟨rfl, trivial⟩ | rfl | (simp; done))
  rw [decide_eq_true (show f.table.1 ≤ (n : Int) by omega)]
  by_cases b4 : (f.key.1 : Int) < 0
  · simp (decide:=true) only[go_sem,Nat.reduceAdd,Nat.reduceMul,Nat.reduceSub,hi,hj,hk,callR_own pf128,callR_own pf102,c1,b1,b2,b3,b4]
    repeat (first|(with_reducible first|refine q1 ?_|refine q2 ?_|refine q3 ?_|refine q4 ?_|refine q5 ?_|refine q6 ?_|refine q7 ?_|refine q8 ?_|refine q9 ?_|refine q10 ?_|refine q11 ?_|refine q12 (by decide) ?_)|((first|with_reducible refine q13 ?_|((with_reducible refine q14 ?_ ?_);focus exact rfl));intro K hK;simp (decide:=true) only[go_sem,Nat.reduceAdd,Nat.reduceMul,Nat.reduceSub,hi,hj,hk,callR_own pf128,callR_own pf102,c1,b1,b2,b3,b4];with_reducible refine hK _ ?_;clear hK K)|(with_reducible refine q15 ?_;intro K J hK hJ;simp (decide:=true) only[go_sem,Nat.reduceAdd,Nat.reduceMul,Nat.reduceSub,hi,hj,hk,callR_own pf128,callR_own pf102,c1,b1,b2,b3,b4];(with_reducible first|refine hK ?_|refine hJ ?_);clear hK hJ K J))
    rw [decide_eq_false (show ¬ (0 : Int) ≤ f.key.1 by omega)]
    (simp (decide:=true) only[go_sem,Nat.reduceAdd,Nat.reduceMul,Nat.reduceSub,hi,hj,hk,callR_own pf128,callR_own pf102,c1,b1,b2,b3,b4]) <;> (try (simp only [hi, hj, hk, callR_own pf128, callR_own pf102, c1, b1, b2, b3, b4, cond_true, cond_false, Bool.true_and, Bool.false_and, Bool.and_true, Bool.and_false, Bool.true_or, Bool.false_or, Bool.or_true, Bool.or_false, Bool.not_true, Bool.not_false, Bool.or_self, Bool.and_self, Bool.not_not])) <;> (first | exact ⟨trivial, trivial⟩ | exact ⟨rfl, trivial⟩ | rfl | (simp; done))
  rw [decide_eq_true (show (0 : Int) ≤ f.key.1 by omega)]
  obtain ⟨u, hu⟩ := atI_lt (l := s.items) (n := f.table.1) (by omega) (by omega)
  simp only [hu]
  by_cases b5 : (u.keys.items.length : Int) ≤ f.key.1
  · have hnone : atI u.keys.items f.key.1 = none := by
      obtain ⟨q, hq⟩ : ∃ q : Nat, f.key.1 = q := ⟨f.key.1.toNat, by omega⟩
      rw [hq] at b5 ⊢
      exact List.getElem?_eq_none (by omega)
    rw [hnone]
    simp (decide:=true) only[go_sem,Nat.reduceAdd,Nat.reduceMul,Nat.reduceSub,hi,hj,hk,callR_own pf128,callR_own pf102,c1,b1,b2,b3,b4,hu,b5]
    repeat (first|(with_reducible first|refine q1 ?_|refine q2 ?_|refine q3 ?_|refine q4 ?_|refine q5 ?_|refine q6 ?_|refine q7 ?_|refine q8 ?_|refine q9 ?_|refine q10 ?_|refine q11 ?_|refine q12 (by decide) ?_)|((first|with_reducible refine q13 ?_|((with_reducible refine q14 ?_ ?_);focus exact rfl));intro K hK;simp (decide:=true) only[go_sem,Nat.reduceAdd,Nat.reduceMul,Nat.reduceSub,hi,hj,hk,callR_own pf128,callR_own pf102,c1,b1,b2,b3,b4,hu,b5];with_reducible refine hK _ ?_;clear hK K)|(with_reducible refine q15 ?_;intro K J hK hJ;simp (decide:=true) only[go_sem,Nat.reduceAdd,Nat.reduceMul,Nat.reduceSub,hi,hj,hk,callR_own pf128,callR_own pf102,c1,b1,b2,b3,b4,hu,b5];(with_reducible first|refine hK ?_|refine hJ ?_);clear hK hJ K J))
    (simp (decide:=true) only[go_sem,Nat.reduceAdd,Nat.reduceMul,Nat.reduceSub,hi,hj,hk,callR_own pf128,callR_own pf102,c1,b1,b2,b3,b4,hu,b5]) <;> (try (simp only [hi, hj, hk, callR_own pf128, callR_own pf102, c1, b1, b2, b3, b4, hu, b5, cond_true, cond_false, Bool.true_and, Bool.false_and, Bool.and_true, Bool.and_false, Bool.true_or, Bool.false_or, Bool.or_true, Bool.or_false, Bool.not_true, Bool.not_false, Bool.or_self, Bool.and_self, Bool.not_not])) <;> (first | exact ⟨trivial, trivial⟩ | exact ⟨rfl, trivial⟩ | rfl | (simp; done))
  obtain ⟨z, hz⟩ := atI_lt (l := u.keys.items) (n := f.key.1) (by omega) (by omega)
  simp only [hz]
  have c2 := cof128 u z
  simp only [encTbl_eq] at c2
  have hin2 := @cof_in u.cols.items z.items
  cases b6 : ((z.items.length : Int) == (f.cols.items.length : Int))
  · simp (decide:=true) only[go_sem,Nat.reduceAdd,Nat.reduceMul,Nat.reduceSub,hi,hj,hk,callR_own pf128,callR_own pf102,c1,b1,b2,b3,b4,hu,b5,hz,c2,b6]
    repeat (first|(with_reducible first|refine q1 ?_|refine q2 ?_|refine q3 ?_|refine q4 ?_|refine q5 ?_|refine q6 ?_|refine q7 ?_|refine q8 ?_|refine q9 ?_|refine q10 ?_|refine q11 ?_|refine q12 (by decide) ?_)|((first|with_reducible refine q13 ?_|((with_reducible refine q14 ?_ ?_);focus exact rfl));intro K hK;simp (decide:=true) only[go_sem,Nat.reduceAdd,Nat.reduceMul,Nat.reduceSub,hi,hj,hk,callR_own pf128,callR_own pf102,c1,b1,b2,b3,b4,hu,b5,hz,c2,b6];with_reducible refine hK _ ?_;clear hK K)|(with_reducible refine q15 ?_;intro K J hK hJ;simp (decide:=true) only[go_sem,Nat.reduceAdd,Nat.reduceMul,Nat.reduceSub,hi,hj,hk,callR_own pf128,callR_own pf102,c1,b1,b2,b3,b4,hu,b5,hz,c2,b6];(with_reducible first|refine hK ?_|refine hJ ?_);clear hK hJ K J))
    (simp (decide:=true) only[go_sem,Nat.reduceAdd,Nat.reduceMul,Nat.reduceSub,hi,hj,hk,callR_own pf128,callR_own pf102,c1,b1,b2,b3,b4,hu,b5,hz,c2,b6]) <;> (try (simp only [hi, hj, hk, callR_own pf128, callR_own pf102, c1, b1, b2, b3, b4, hu, b5, hz, c2, b6, cond_true, cond_false, Bool.true_and, Bool.false_and, Bool.and_true, Bool.and_false, Bool.true_or, Bool.false_or, Bool.or_true, Bool.or_false, Bool.not_true, Bool.not_false, Bool.or_self, Bool.and_self, Bool.not_not])) <;> (first | exact ⟨trivial, trivial⟩ | exact ⟨rfl, trivial⟩ | rfl | (simp; done))
  cases b7 : (cofB u.cols.items z.items)
  · simp (decide:=true) only[go_sem,Nat.reduceAdd,Nat.reduceMul,Nat.reduceSub,hi,hj,hk,callR_own pf128,callR_own pf102,c1,b1,b2,b3,b4,hu,b5,hz,c2,b6,b7]
    repeat (first|(with_reducible first|refine q1 ?_|refine q2 ?_|refine q3 ?_|refine q4 ?_|refine q5 ?_|refine q6 ?_|refine q7 ?_|refine q8 ?_|refine q9 ?_|refine q10 ?_|refine q11 ?_|refine q12 (by decide) ?_)|((first|with_reducible refine q13 ?_|((with_reducible refine q14 ?_ ?_);focus exact rfl));intro K hK;simp (decide:=true) only[go_sem,Nat.reduceAdd,Nat.reduceMul,Nat.reduceSub,hi,hj,hk,callR_own pf128,callR_own pf102,c1,b1,b2,b3,b4,hu,b5,hz,c2,b6,b7];with_reducible refine hK _ ?_;clear hK K)|(with_reducible refine q15 ?_;intro K J hK hJ;simp (decide:=true) only[go_sem,Nat.reduceAdd,Nat.reduceMul,Nat.reduceSub,hi,hj,hk,callR_own pf128,callR_own pf102,c1,b1,b2,b3,b4,hu,b5,hz,c2,b6,b7];(with_reducible first|refine hK ?_|refine hJ ?_);clear hK hJ K J))
    (simp (decide:=true) only[go_sem,Nat.reduceAdd,Nat.reduceMul,Nat.reduceSub,hi,hj,hk,callR_own pf128,callR_own pf102,c1,b1,b2,b3,b4,hu,b5,hz,c2,b6,b7]) <;> (try (simp only [hi, hj, hk, callR_own pf128, callR_own pf102, c1, b1, b2, b3, b4, hu, b5, hz, c2, b6, b7, cond_true, cond_false, Bool.true_and, Bool.false_and, Bool.and_true, Bool.and_false, Bool.true_or, Bool.false_or, Bool.or_true, Bool.or_false, Bool.not_true, Bool.not_false, Bool.or_self, Bool.and_self, Bool.not_not])) <;> (first | exact ⟨trivial, trivial⟩ | exact ⟨rfl, trivial⟩ | rfl | (simp; done))
  have hle : z.items.length = f.cols.items.length := by
    have : (z.items.length : Int) = (f.cols.items.length : Int) := by simpa using b6
    omega
  have c3 := types102 (G := GK) s t u f z hu hz (by omega) hin (hin2 b7)
  simp only [encTbl_eq, encFgn_eq] at c3
  simp (decide:=true) only[go_sem,Nat.reduceAdd,Nat.reduceMul,Nat.reduceSub,hi,hj,hk,callR_own pf128,callR_own pf102,c1,b1,b2,b3,b4,hu,b5,hz,c2,b6,b7,c3]
  repeat (first|(with_reducible first|refine q1 ?_|refine q2 ?_|refine q3 ?_|refine q4 ?_|refine q5 ?_|refine q6 ?_|refine q7 ?_|refine q8 ?_|refine q9 ?_|refine q10 ?_|refine q11 ?_|refine q12 (by decide) ?_)|((first|with_reducible refine q13 ?_|((with_reducible refine q14 ?_ ?_);focus exact rfl));intro K hK;simp (decide:=true) only[go_sem,Nat.reduceAdd,Nat.reduceMul,Nat.reduceSub,hi,hj,hk,callR_own pf128,callR_own pf102,c1,b1,b2,b3,b4,hu,b5,hz,c2,b6,b7,c3];with_reducible refine hK _ ?_;clear hK K)|(with_reducible refine q15 ?_;intro K J hK hJ;simp (decide:=true) only[go_sem,Nat.reduceAdd,Nat.reduceMul,Nat.reduceSub,hi,hj,hk,callR_own pf128,callR_own pf102,c1,b1,b2,b3,b4,hu,b5,hz,c2,b6,b7,c3];(with_reducible first|refine hK ?_|refine hJ ?_);clear hK hJ K J))
  (simp (decide:=true) only[go_sem,Nat.reduceAdd,Nat.reduceMul,Nat.reduceSub,hi,hj,hk,callR_own pf128,callR_own pf102,c1,b1,b2,b3,b4,hu,b5,hz,c2,b6,b7,c3]) <;> (try (simp only [hi, hj, hk, callR_own pf128, callR_own pf102, c1, b1, b2, b3, b4, hu, b5, hz, c2, b6, b7, c3, cond_true, cond_false, Bool.true_and, Bool.false_and, Bool.and_true, Bool.and_false, Bool.true_or, Bool.false_or, Bool.or_true, Bool.or_false, Bool.not_true, Bool.not_false, Bool.or_self, Bool.and_self, Bool.not_not])) <;> (first | exact ⟨trivial, trivial⟩ | exact ⟨rfl, trivial⟩ | rfl | (simp; done))
end Go.Eng
