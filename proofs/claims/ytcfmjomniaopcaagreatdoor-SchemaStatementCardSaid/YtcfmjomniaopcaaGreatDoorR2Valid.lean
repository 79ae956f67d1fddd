/- A part of the proof: see the last text. -/
import Derived.Test.YtcfmjomniaopcaaGreatDoorR2Tbl
set_option linter.unusedSimpArgs false
set_option linter.unusedVariables false
/- schema.Valid. -/
namespace Go.Eng
open Go Go.Proofs
open Nat (reduceAdd reduceMul reduceSub)
set_option maxRecDepth 20000
set_option maxHeartbeats 32000000
/-- The names of numbers of columns. -/
def nameAt (cols : List Col) (x : I64) : Str := match atI cols x.1 with | some c => c.name | none => []
def inB (n : Nat) (c : I64) : Bool := decide (0 ≤ c.1) && decide (c.1 < (n : Int))
def cofB (cols : List Col) (l : List I64) : Bool := decide ((0 : Int) < (l.length : Int)) && (!dupI l && l.all (inB cols.length))
theorem atI_lt {α : Type} {l : List α} {n : Int} (h0 : 0 ≤ n) (h1 : n < (l.length : Int)) : ∃ a, atI l n = some a := by
  obtain ⟨k, rfl⟩ : ∃ k : Nat, n = k := ⟨n.toNat, by omega⟩
  exact ⟨_, List.getElem?_eq_getElem (l := l) (i := k) (by omega)⟩
theorem cof_in {cols : List Col} {l : List I64} (h : cofB cols l = true) : inC cols l := by
  simp only [cofB, Bool.and_eq_true] at h
  intro x hx
  have := List.all_eq_true.1 h.2.2 x hx
  simp only [inB, Bool.and_eq_true, decide_eq_true_eq] at this
  exact atI_lt this.1 this.2
theorem in171 (t : Tbl) (x : I64) (m : Mem) (id : Nat) (hm : m.boxes[id]? = some [.str t.name, sl 6 encCol t.cols, sl 1 (sl 1 I) t.keys, sl 3 encFgn t.fgns, sl 8 encEx t.checks]) : callR (XG GK) TT 85 m [I x, .ptr id 0] = some (.bool (inB t.cols.items.length x), m) := by
  refine callR_val T85 rfl ?_
  unfold Tryz.f85
  simp only [Option.getD_some]
  unfold inB
  by_cases c : (0 : Int) ≤ x.1
  · simp +decide only[go_sem,reduceAdd,reduceMul,reduceSub,hm,c]
    refine gw (an hm c) ?_
    (simp +decide only[go_sem,reduceAdd,reduceMul,reduceSub,hm,c]) <;> (try (simp only [hm, c, cond_true, cond_false, Bool.true_and, Bool.false_and, Bool.and_true, Bool.and_false, Bool.true_or, Bool.false_or, Bool.or_true, Bool.or_false, Bool.not_true, Bool.not_false, Bool.or_self, Bool.and_self, Bool.not_not])) <;> (first | exact ⟨trivial, trivial⟩ | exact ⟨rfl, trivial⟩ | rfl | (simp; done))
  · simp +decide only[go_sem,reduceAdd,reduceMul,reduceSub,hm,c]
    refine gw (an hm c) ?_
    (simp +decide only[go_sem,reduceAdd,reduceMul,reduceSub,hm,c]) <;> (try (simp only [hm, c, cond_true, cond_false, Bool.true_and, Bool.false_and, Bool.and_true, Bool.and_false, Bool.true_or, Bool.false_or, Bool.or_true, Bool.or_false, Bool.not_true, Bool.not_false, Bool.or_self, Bool.and_self, Bool.not_not])) <;> (first | exact ⟨trivial, trivial⟩ | exact ⟨rfl, trivial⟩ | rfl | (simp; done))
theorem cof128 (t : Tbl) (l : Sl I64) : callP (XG GK) TT 49 [encTbl t, sl 1 I l] = some (.bool (cofB t.cols.items l.items)) := by
  refine callP_val T49 rfl (by simp only [go_sem]) ?_
  unfold Tryz.f49
  simp only [Option.getD_some]
  have c1 := rep169 (G := GK) l
  have c2 := all170 l 85 [.ptr 0 0] ⟨[[.str t.name, sl 6 encCol t.cols, sl 1 (sl 1 I) t.keys, sl 3 encFgn t.fgns, sl 8 encEx t.checks]], []⟩ (inB t.cols.items.length) (eq_true (by decide)) fun x _ => in171 t x _ 0 rfl
  unfold cofB
  by_cases c : (0 : Int) < (l.items.length : Int)
  · cases d : (dupI l.items)
    · simp +decide only[go_sem,reduceAdd,reduceMul,reduceSub,c1,c2,c,d]
      refine gw (an c1 (an c2 (an c d))) ?_
      (simp +decide only[go_sem,reduceAdd,reduceMul,reduceSub,c1,c2,c,d]) <;> (try (simp only [c1, c2, c, d, cond_true, cond_false, Bool.true_and, Bool.false_and, Bool.and_true, Bool.and_false, Bool.true_or, Bool.false_or, Bool.or_true, Bool.or_false, Bool.not_true, Bool.not_false, Bool.or_self, Bool.and_self, Bool.not_not])) <;> (first | exact ⟨trivial, trivial⟩ | exact ⟨rfl, trivial⟩ | rfl | (simp; done))
    · simp +decide only[go_sem,reduceAdd,reduceMul,reduceSub,c1,c2,c,d]
      refine gw (an c1 (an c2 (an c d))) ?_
      (simp +decide only[go_sem,reduceAdd,reduceMul,reduceSub,c1,c2,c,d]) <;> (try (simp only [c1, c2, c, d, cond_true, cond_false, Bool.true_and, Bool.false_and, Bool.and_true, Bool.and_false, Bool.true_or, Bool.false_or, Bool.or_true, Bool.or_false, Bool.not_true, Bool.not_false, Bool.or_self, Bool.and_self, Bool.not_not])) <;> (first | exact ⟨trivial, trivial⟩ | exact ⟨rfl, trivial⟩ | rfl | (simp; done))
  · simp +decide only[go_sem,reduceAdd,reduceMul,reduceSub,c1,c2,c]
    refine gw (an c1 (an c2 c)) ?_
    (simp +decide only[go_sem,reduceAdd,reduceMul,reduceSub,c1,c2,c]) <;> (try (simp only [c1, c2, c, cond_true, cond_false, Bool.true_and, Bool.false_and, Bool.and_true, Bool.and_false, Bool.true_or, Bool.false_or, Bool.or_true, Bool.or_false, Bool.not_true, Bool.not_false, Bool.or_self, Bool.and_self, Bool.not_not])) <;> (first | exact ⟨trivial, trivial⟩ | exact ⟨rfl, trivial⟩ | rfl | (simp; done))
theorem eq129 (a b : Sl I64) (m : Mem) (id : Nat) (hm : m.boxes[id]? = some [sl 1 I b]) : callR (XG GK) TT 51 m [sl 1 I a, .ptr id 0] = some (.bool (eqI a.items b.items), m) := by
  refine callR_val T51 rfl ?_
  unfold Tryz.f51
  simp only [Option.getD_some]
  have c := equal120 (G := GK) a b
  simp +decide only[go_sem,reduceAdd,reduceMul,reduceSub,hm,c]
  refine gw (an hm c) ?_
  simp +decide only[go_sem,reduceAdd,reduceMul,reduceSub,hm,c]
/-- Is a foreign key right? -/
def fgV (s : List Tbl) (n : Nat) (t : Tbl) (f : Fgn) : Bool :=
  cofB t.cols.items f.cols.items && (decide (0 ≤ f.table.1) && (decide (f.table.1 ≤ (n : Int)) && (decide (0 ≤ f.key.1) && match atI s f.table.1 with
    | some u => (match atI u.keys.items f.key.1 with
      | some k => ((k.items.length : Int) == (f.cols.items.length : Int)) && (cofB u.cols.items k.items && typF u.cols.items t.cols.items k.items f.cols.items)
      | none => false)
    | none => false)))
theorem vfg130 (s : Sl Tbl) (n : Nat) (t : Tbl) (f : Fgn) (hn : n < s.items.length) (m : Mem) (i j k : Nat) (hi : m.boxes[i]? = some [.str t.name, sl 6 encCol t.cols, sl 1 (sl 1 I) t.keys, sl 3 encFgn t.fgns, sl 8 encEx t.checks]) (hj : m.boxes[j]? = some [.int .i64 (n : Int)]) (hk : m.boxes[k]? = some [sl 5 encTbl s]) :
    callR (XG GK) TT 53 m [encFgn f, .ptr i 0, .ptr j 0, .ptr k 0] = some (.bool (fgV s.items n t f), m) := by
  refine callR_val T53 rfl ?_
  unfold Tryz.f53
  simp only [Option.getD_some]
  have c1 := cof128 t f.cols
  simp only [encTbl_eq] at c1
  have hslt := s.lt
  have hin := @cof_in t.cols.items f.cols.items
  unfold fgV
  cases b1 : (cofB t.cols.items f.cols.items)
  · simp +decide only[go_sem,reduceAdd,reduceMul,reduceSub,hi,hj,hk,c1,b1]
    refine gw (an hi (an hj (an hk (an c1 b1)))) ?_
    (simp +decide only[go_sem,reduceAdd,reduceMul,reduceSub,hi,hj,hk,c1,b1]) <;> (try (simp only [hi, hj, hk, c1, b1, cond_true, cond_false, Bool.true_and, Bool.false_and, Bool.and_true, Bool.and_false, Bool.true_or, Bool.false_or, Bool.or_true, Bool.or_false, Bool.not_true, Bool.not_false, Bool.or_self, Bool.and_self, Bool.not_not])) <;> (first | exact ⟨trivial, trivial⟩ | exact ⟨rfl, trivial⟩ | rfl | (simp; done))
  have hin := hin b1
  by_cases b2 : (f.table.1 : Int) < 0
  · simp +decide only[go_sem,reduceAdd,reduceMul,reduceSub,hi,hj,hk,c1,b1,b2]
    refine gw (an hi (an hj (an hk (an c1 (an b1 b2))))) ?_
    rw [decide_eq_false (show ¬ (0 : Int) ≤ f.table.1 by omega)]
    (simp +decide only[go_sem,reduceAdd,reduceMul,reduceSub,hi,hj,hk,c1,b1,b2]) <;> (try (simp only [hi, hj, hk, c1, b1, b2, cond_true, cond_false, Bool.true_and, Bool.false_and, Bool.and_true, Bool.and_false, Bool.true_or, Bool.false_or, Bool.or_true, Bool.or_false, Bool.not_true, Bool.not_false, Bool.or_self, Bool.and_self, Bool.not_not])) <;> (first | exact ⟨trivial, trivial⟩ | exact ⟨rfl, trivial⟩ | rfl | (simp; done))
  rw [decide_eq_true (show (0 : Int) ≤ f.table.1 by omega)]
  by_cases b3 : (n : Int) < (f.table.1 : Int)
  · simp +decide only[go_sem,reduceAdd,reduceMul,reduceSub,hi,hj,hk,c1,b1,b2,b3]
    refine gw (an hi (an hj (an hk (an c1 (an b1 (an b2 b3)))))) ?_
    rw [decide_eq_false (show ¬ f.table.1 ≤ (n : Int) by omega)]
    (simp +decide only[go_sem,reduceAdd,reduceMul,reduceSub,hi,hj,hk,c1,b1,b2,b3]) <;> (try (simp only [hi, hj, hk, c1, b1, b2, b3, cond_true, cond_false, Bool.true_and, Bool.false_and, Bool.and_true, Bool.and_false, Bool.true_or, Bool.false_or, Bool.or_true, Bool.or_false, Bool.not_true, Bool.not_false, Bool.or_self, Bool.and_self, Bool.not_not])) <;> (first | exact ⟨trivial, trivial⟩ | exact ⟨rfl, trivial⟩ | rfl | (simp; done))
  rw [decide_eq_true (show f.table.1 ≤ (n : Int) by omega)]
  by_cases b4 : (f.key.1 : Int) < 0
  · simp +decide only[go_sem,reduceAdd,reduceMul,reduceSub,hi,hj,hk,c1,b1,b2,b3,b4]
    refine gw (an hi (an hj (an hk (an c1 (an b1 (an b2 (an b3 b4))))))) ?_
    rw [decide_eq_false (show ¬ (0 : Int) ≤ f.key.1 by omega)]
    (simp +decide only[go_sem,reduceAdd,reduceMul,reduceSub,hi,hj,hk,c1,b1,b2,b3,b4]) <;> (try (simp only [hi, hj, hk, c1, b1, b2, b3, b4, cond_true, cond_false, Bool.true_and, Bool.false_and, Bool.and_true, Bool.and_false, Bool.true_or, Bool.false_or, Bool.or_true, Bool.or_false, Bool.not_true, Bool.not_false, Bool.or_self, Bool.and_self, Bool.not_not])) <;> (first | exact ⟨trivial, trivial⟩ | exact ⟨rfl, trivial⟩ | rfl | (simp; done))
  rw [decide_eq_true (show (0 : Int) ≤ f.key.1 by omega)]
  obtain ⟨u, hu⟩ := atI_lt (l := s.items) (n := f.table.1) (by omega) (by omega)
  simp only [hu]
  by_cases b5 : (u.keys.items.length : Int) ≤ f.key.1
  · have hnone : atI u.keys.items f.key.1 = none := by
      obtain ⟨q, hq⟩ : ∃ q : Nat, f.key.1 = q := ⟨f.key.1.toNat, by omega⟩
      rw [hq] at b5 ⊢
      exact List.getElem?_eq_none (by omega)
    rw [hnone]
    simp +decide only[go_sem,reduceAdd,reduceMul,reduceSub,hi,hj,hk,c1,b1,b2,b3,b4,hu,b5]
    refine gw (an hi (an hj (an hk (an c1 (an b1 (an b2 (an b3 (an b4 (an hu b5))))))))) ?_
    (simp +decide only[go_sem,reduceAdd,reduceMul,reduceSub,hi,hj,hk,c1,b1,b2,b3,b4,hu,b5]) <;> (try (simp only [hi, hj, hk, c1, b1, b2, b3, b4, hu, b5, cond_true, cond_false, Bool.true_and, Bool.false_and, Bool.and_true, Bool.and_false, Bool.true_or, Bool.false_or, Bool.or_true, Bool.or_false, Bool.not_true, Bool.not_false, Bool.or_self, Bool.and_self, Bool.not_not])) <;> (first | exact ⟨trivial, trivial⟩ | exact ⟨rfl, trivial⟩ | rfl | (simp; done))
  obtain ⟨z, hz⟩ := atI_lt (l := u.keys.items) (n := f.key.1) (by omega) (by omega)
  simp only [hz]
  have c2 := cof128 u z
  simp only [encTbl_eq] at c2
  have hin2 := @cof_in u.cols.items z.items
  cases b6 : ((z.items.length : Int) == (f.cols.items.length : Int))
  · simp +decide only[go_sem,reduceAdd,reduceMul,reduceSub,hi,hj,hk,c1,b1,b2,b3,b4,hu,b5,hz,c2,b6]
    refine gw (an hi (an hj (an hk (an c1 (an b1 (an b2 (an b3 (an b4 (an hu (an b5 (an hz (an c2 b6)))))))))))) ?_
    (simp +decide only[go_sem,reduceAdd,reduceMul,reduceSub,hi,hj,hk,c1,b1,b2,b3,b4,hu,b5,hz,c2,b6]) <;> (try (simp only [hi, hj, hk, c1, b1, b2, b3, b4, hu, b5, hz, c2, b6, cond_true, cond_false, Bool.true_and, Bool.false_and, Bool.and_true, Bool.and_false, Bool.true_or, Bool.false_or, Bool.or_true, Bool.or_false, Bool.not_true, Bool.not_false, Bool.or_self, Bool.and_self, Bool.not_not])) <;> (first | exact ⟨trivial, trivial⟩ | exact ⟨rfl, trivial⟩ | rfl | (simp; done))
  cases b7 : (cofB u.cols.items z.items)
  · simp +decide only[go_sem,reduceAdd,reduceMul,reduceSub,hi,hj,hk,c1,b1,b2,b3,b4,hu,b5,hz,c2,b6,b7]
    refine gw (an hi (an hj (an hk (an c1 (an b1 (an b2 (an b3 (an b4 (an hu (an b5 (an hz (an c2 (an b6 b7))))))))))))) ?_
    (simp +decide only[go_sem,reduceAdd,reduceMul,reduceSub,hi,hj,hk,c1,b1,b2,b3,b4,hu,b5,hz,c2,b6,b7]) <;> (try (simp only [hi, hj, hk, c1, b1, b2, b3, b4, hu, b5, hz, c2, b6, b7, cond_true, cond_false, Bool.true_and, Bool.false_and, Bool.and_true, Bool.and_false, Bool.true_or, Bool.false_or, Bool.or_true, Bool.or_false, Bool.not_true, Bool.not_false, Bool.or_self, Bool.and_self, Bool.not_not])) <;> (first | exact ⟨trivial, trivial⟩ | exact ⟨rfl, trivial⟩ | rfl | (simp; done))
  have hle : z.items.length = f.cols.items.length := by
    have : (z.items.length : Int) = (f.cols.items.length : Int) := by simpa using b6
    omega
  have c3 := types102 (G := GK) s t u f z hu hz (by omega) hin (hin2 b7)
  simp only [encTbl_eq, encFgn_eq] at c3
  simp +decide only[go_sem,reduceAdd,reduceMul,reduceSub,hi,hj,hk,c1,b1,b2,b3,b4,hu,b5,hz,c2,b6,b7,c3]
  refine gw (an hi (an hj (an hk (an c1 (an b1 (an b2 (an b3 (an b4 (an hu (an b5 (an hz (an c2 (an b6 (an b7 c3)))))))))))))) ?_
  (simp +decide only[go_sem,reduceAdd,reduceMul,reduceSub,hi,hj,hk,c1,b1,b2,b3,b4,hu,b5,hz,c2,b6,b7,c3]) <;> (try (simp only [hi, hj, hk, c1, b1, b2, b3, b4, hu, b5, hz, c2, b6, b7, c3, cond_true, cond_false, Bool.true_and, Bool.false_and, Bool.and_true, Bool.and_false, Bool.true_or, Bool.false_or, Bool.or_true, Bool.or_false, Bool.not_true, Bool.not_false, Bool.or_self, Bool.and_self, Bool.not_not])) <;> (first | exact ⟨trivial, trivial⟩ | exact ⟨rfl, trivial⟩ | rfl | (simp; done))
end Go.Eng
