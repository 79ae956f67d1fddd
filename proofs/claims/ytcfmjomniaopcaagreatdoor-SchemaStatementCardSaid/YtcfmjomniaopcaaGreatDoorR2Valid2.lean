/- A part of the proof: see the last text. -/
import Derived.Test.YtcfmjomniaopcaaGreatDoorR2Valid
set_option linter.unusedSimpArgs false
set_option linter.unusedVariables false
/- schema.Valid: a table, a schema. -/
namespace Go.Eng
open Go Go.Proofs
open Nat (reduceAdd reduceMul reduceSub)
set_option maxRecDepth 20000
set_option maxHeartbeats 32000000
theorem at1 {α : Type} (g : List α) (a : α) (r : List α) : (g ++ [a] ++ r)[g.length]? = some a := by simp
theorem at2 {α : Type} (g : List α) (a b : α) (r : List α) : (g ++ [a] ++ [b] ++ r)[g.length + 1]? = some b := by
  rw [show g ++ [a] ++ [b] ++ r = g ++ (a :: b :: r) by simp, List.getElem?_append_right (by omega), show g.length + 1 - g.length = 1 by omega]; rfl
theorem at3 {α : Type} (g : List α) (a b c : α) (r : List α) : (g ++ [a] ++ [b] ++ [c] ++ r)[g.length + 1 + 1]? = some c := by
  rw [show g ++ [a] ++ [b] ++ [c] ++ r = g ++ (a :: b :: c :: r) by simp, List.getElem?_append_right (by omega), show g.length + 1 + 1 - g.length = 2 by omega]; rfl
def keysV (cols : List Col) (seen : List (Sl I64)) : List (Sl I64) → Bool
  | [] => true
  | k :: r => (cofB cols k.items && !(seen.any fun o => eqI k.items o.items)) && keysV cols (seen ++ [k]) r
theorem keysV_step {cols : List Col} {l : List (Sl I64)} {k : Nat} {x : Sl I64} (h : l[k]? = some x) : keysV cols (l.take k) (l.drop k) = ((cofB cols x.items && !((l.take k).any fun o => eqI x.items o.items)) && keysV cols (l.take (k + 1)) (l.drop (k + 1))) := by
  rw [dropc h, keysV, List.take_add_one, h]; rfl
def headV (t : Tbl) : Bool := nameB t.name && (decide (1 ≤ t.cols.items.length) && (decide (t.cols.items.length ≤ 8) && (decide (t.keys.items.length ≤ 4) && (decide (t.fgns.items.length ≤ 4) && decide (t.checks.items.length ≤ 4)))))
def validB (s : List Tbl) (n : Nat) (t : Tbl) : Bool := headV t && (decide (fnd (fun u : Tbl => u.name == t.name) 0 s = some n) && (t.cols.items.all colB && (!dupS (t.cols.items.map (·.name)) && (keysV t.cols.items [] t.keys.items && t.fgns.items.all (fgV s n t)))))
theorem val79 (s : Sl Tbl) (n : Nat) (t : Tbl) (ht : s.items[n]? = some t) (hs : SmallT t) : callP (XG GK) TT 29 [sl 5 encTbl s, .int .i64 (n : Int)] = some (.bool (validB s.items n t)) := by
  obtain ⟨x1, x2, x3, x4, x5, x6, x7, x8, x9⟩ := hs
  have hn : n < s.items.length := (List.getElem?_eq_some_iff.1 ht).1
  have hslt := s.lt
  refine callP_val T29 rfl (by simp only [go_sem]) ?_
  unfold Tryz.f29
  simp only [Option.getD_some]
  have c1 := name123 t.name (by omega)
  have c2 : ∀ m : Mem, callR (XG GK) TT 45 m [sl 6 encCol t.cols, .func 46 []] = some (.bool (t.cols.items.all colB), ⟨m.boxes ++ [[.func 46 []]], m.toks⟩) := fun m =>
    all124 t.cols 46 [] m colB (eq_true (by decide)) fun y hy => own_val pf46 rfl (col125 y (by have := x8 y hy; omega))
  have c3 := names127 (G := GK) t.cols (by omega)
  have c4 := rep126 (G := GK) (cn (t.cols.items.map (·.name)))
  rw [cn_items (by rw [List.length_map]; omega)] at c4
  have c5 := find25 (G := GK) s t.name
  obtain ⟨j, hj⟩ : ∃ j, fnd (fun u : Tbl => u.name == t.name) 0 s.items = some j := by
    have h := fnd_any (fun u : Tbl => u.name == t.name) s.items 0
    have : (s.items.any fun u : Tbl => u.name == t.name) = true := List.any_eq_true.2 ⟨t, List.mem_of_getElem? ht, by simp⟩
    rw [this] at h
    exact Option.isSome_iff_exists.1 h
  rw [hj] at c5
  simp only [fndT] at c5
  unfold validB headV
  rw [hj]
  cases b1 : (nameB t.name)
  · simp +decide only[go_sem,reduceAdd,reduceMul,reduceSub,ht,c1,c2,c3,c4,c5,b1]
    refine gw (an ht (an c1 (an c2 (an c3 (an c4 (an c5 b1)))))) ?_
    (simp +decide only[go_sem,reduceAdd,reduceMul,reduceSub,ht,c1,c2,c3,c4,c5,b1]) <;> (try (simp only [ht, c1, c2, c3, c4, c5, b1, cond_true, cond_false, Bool.true_and, Bool.false_and, Bool.and_true, Bool.and_false, Bool.true_or, Bool.false_or, Bool.or_true, Bool.or_false, Bool.not_true, Bool.not_false, Bool.or_self, Bool.and_self, Bool.not_not])) <;> (first | exact ⟨trivial, trivial⟩ | exact ⟨rfl, trivial⟩ | rfl | (simp; done))
  by_cases b2 : (t.cols.items.length : Int) < 1
  · rw [decide_eq_false (show ¬ 1 ≤ t.cols.items.length by omega)]
    simp +decide only[go_sem,reduceAdd,reduceMul,reduceSub,ht,c1,c2,c3,c4,c5,b1,b2]
    refine gw (an ht (an c1 (an c2 (an c3 (an c4 (an c5 (an b1 b2))))))) ?_
    (simp +decide only[go_sem,reduceAdd,reduceMul,reduceSub,ht,c1,c2,c3,c4,c5,b1,b2]) <;> (try (simp only [ht, c1, c2, c3, c4, c5, b1, b2, cond_true, cond_false, Bool.true_and, Bool.false_and, Bool.and_true, Bool.and_false, Bool.true_or, Bool.false_or, Bool.or_true, Bool.or_false, Bool.not_true, Bool.not_false, Bool.or_self, Bool.and_self, Bool.not_not])) <;> (first | exact ⟨trivial, trivial⟩ | exact ⟨rfl, trivial⟩ | rfl | (simp; done))
  rw [decide_eq_true (show 1 ≤ t.cols.items.length by omega)]
  by_cases b3 : (8 : Int) < (t.cols.items.length : Int)
  · rw [decide_eq_false (show ¬ t.cols.items.length ≤ 8 by omega)]
    simp +decide only[go_sem,reduceAdd,reduceMul,reduceSub,ht,c1,c2,c3,c4,c5,b1,b2,b3]
    refine gw (an ht (an c1 (an c2 (an c3 (an c4 (an c5 (an b1 (an b2 b3)))))))) ?_
    (simp +decide only[go_sem,reduceAdd,reduceMul,reduceSub,ht,c1,c2,c3,c4,c5,b1,b2,b3]) <;> (try (simp only [ht, c1, c2, c3, c4, c5, b1, b2, b3, cond_true, cond_false, Bool.true_and, Bool.false_and, Bool.and_true, Bool.and_false, Bool.true_or, Bool.false_or, Bool.or_true, Bool.or_false, Bool.not_true, Bool.not_false, Bool.or_self, Bool.and_self, Bool.not_not])) <;> (first | exact ⟨trivial, trivial⟩ | exact ⟨rfl, trivial⟩ | rfl | (simp; done))
  rw [decide_eq_true (show t.cols.items.length ≤ 8 by omega)]
  by_cases b4 : (4 : Int) < (if (t.checks.items.length : Int) > (if (t.fgns.items.length : Int) > (t.keys.items.length : Int) then (t.fgns.items.length : Int) else (t.keys.items.length : Int)) then (t.checks.items.length : Int) else (if (t.fgns.items.length : Int) > (t.keys.items.length : Int) then (t.fgns.items.length : Int) else (t.keys.items.length : Int)))
  · have hno : (decide (t.keys.items.length ≤ 4) && (decide (t.fgns.items.length ≤ 4) && decide (t.checks.items.length ≤ 4))) = false := by
      simp only [Bool.and_eq_false_iff, decide_eq_false_iff_not]
      split at b4 <;> split at b4 <;> omega
    rw [hno]
    simp +decide only[go_sem,reduceAdd,reduceMul,reduceSub,ht,c1,c2,c3,c4,c5,b1,b2,b3,b4]
    refine gw (an ht (an c1 (an c2 (an c3 (an c4 (an c5 (an b1 (an b2 (an b3 b4))))))))) ?_
    (simp +decide only[go_sem,reduceAdd,reduceMul,reduceSub,ht,c1,c2,c3,c4,c5,b1,b2,b3,b4]) <;> (try (simp only [ht, c1, c2, c3, c4, c5, b1, b2, b3, b4, cond_true, cond_false, Bool.true_and, Bool.false_and, Bool.and_true, Bool.and_false, Bool.true_or, Bool.false_or, Bool.or_true, Bool.or_false, Bool.not_true, Bool.not_false, Bool.or_self, Bool.and_self, Bool.not_not])) <;> (first | exact ⟨trivial, trivial⟩ | exact ⟨rfl, trivial⟩ | rfl | (simp; done))
  have hyes : (decide (t.keys.items.length ≤ 4) && (decide (t.fgns.items.length ≤ 4) && decide (t.checks.items.length ≤ 4))) = true := by
    simp only [Bool.and_eq_true, decide_eq_true_eq]
    split at b4 <;> split at b4 <;> omega
  rw [hyes]
  simp +decide only[go_sem,reduceAdd,reduceMul,reduceSub,ht,c1,c2,c3,c4,c5,b1,b2,b3,b4]
  refine gw (an ht (an c1 (an c2 (an c3 (an c4 (an c5 (an b1 (an b2 (an b3 b4))))))))) ?_
  by_cases hjn : j = n
  · subst hjn
    rw [decide_eq_true (rfl : some j = some j)]
    have hbn : ((j : Int) != (j : Int)) = false := by simp
    cases b5 : (t.cols.items.all colB)
    · refine gw (an ht (an c1 (an c2 (an c3 (an c4 (an c5 (an b1 (an b2 (an b3 (an b4 (an hbn b5))))))))))) ?_
      (simp +decide only[go_sem,reduceAdd,reduceMul,reduceSub,ht,c1,c2,c3,c4,c5,b1,b2,b3,b4,hbn,b5]) <;> (try (simp only [ht, c1, c2, c3, c4, c5, b1, b2, b3, b4, hbn, b5, cond_true, cond_false, Bool.true_and, Bool.false_and, Bool.and_true, Bool.and_false, Bool.true_or, Bool.false_or, Bool.or_true, Bool.or_false, Bool.not_true, Bool.not_false, Bool.or_self, Bool.and_self, Bool.not_not])) <;> (first | exact ⟨trivial, trivial⟩ | exact ⟨rfl, trivial⟩ | rfl | (simp; done))
    cases b6 : (dupS (t.cols.items.map (·.name)))
    · refine gw (an ht (an c1 (an c2 (an c3 (an c4 (an c5 (an b1 (an b2 (an b3 (an b4 (an hbn (an b5 b6)))))))))))) ?_
      refine wpI_loopC (T := Nat × List (List D)) [2, 3, 5, 66, 67, 68] rfl (by simp +decide only[go_sem,reduceAdd,reduceMul,reduceSub,ht,c1,c2,c3,c4,c5,b1,b2,b3,b4,hbn,b5,b6]; exact rfl) (fun p => [(68, .int .i64 (p.1 : Int))]) (fun _ => []) (fun p => ⟨p.2, []⟩) (fun p => p.1 ≤ t.keys.items.length ∧ keysV t.cols.items (t.keys.items.take p.1) (t.keys.items.drop p.1) = keysV t.cols.items [] t.keys.items) (fun p => t.keys.items.length - p.1) (0, [[.func 46 []]]) (by simp +decide only[go_sem,reduceAdd,reduceMul,reduceSub,ht,c1,c2,c3,c4,c5,b1,b2,b3,b4,hbn,b5,b6] <;> rfl) (by exact ⟨Nat.zero_le _, rfl⟩) ?_
      rintro ⟨k2, g2⟩ ⟨hk2, hP⟩
      simp only at hk2 hP ⊢
      have hklt := t.keys.lt
      by_cases h2 : k2 < t.keys.items.length
      · have l_y : ((k2 : Int) < ((t.keys.items).length : Int)) = True := by simp; omega
        obtain ⟨y, g_y⟩ : ∃ a_, (t.keys.items)[k2]? = some a_ := ⟨_, List.getElem?_eq_getElem (by assumption)⟩
        have w_y := wrap_nat k2 (by omega)
        rw [keysV_step g_y] at hP
        have c6 := cof128 t y
        simp only [encTbl_eq] at c6
        have c7 := slcI_sl (P := Tryz.prog) (t := 54) (k := 1) (sl 1 I) t.keys (i := k2) ty_ss_54 (by omega)
        have c8 := ctf114 (t.keys.take k2) 51 [.ptr g2.length 0] ⟨g2 ++ [[sl 1 I y]], []⟩ (fun o => eqI o.items y.items) (eq_true (by decide)) fun o _ => eq129 o y _ _ (by simp)
        rw [Sl.take_items, show (fun o : Sl I64 => eqI o.items y.items) = fun o => eqI y.items o.items from funext fun o => eqI_symm _ _] at c8
        cases d1 : (cofB t.cols.items y.items)
        · rw [d1, Bool.false_and, Bool.false_and] at hP
          refine gw (an ht (an c1 (an c2 (an c3 (an c4 (an c5 (an b1 (an b2 (an b3 (an b4 (an hbn (an b5 (an b6 (an l_y (an g_y (an w_y (an c6 (an c7 (an c8 d1))))))))))))))))))) ?_
          simp +decide only[go_sem,reduceAdd,reduceMul,reduceSub,ht,c1,c2,c3,c4,c5,b1,b2,b3,b4,hbn,b5,b6,l_y,g_y,w_y,c6,c7,c8,d1]
          rw [← hP]
          simp only [ht, c1, c2, c3, c4, c5, b1, b2, b3, b4, hbn, b5, b6, l_y, g_y, w_y, c6, c7, c8, d1, cond_true, cond_false, Bool.true_and, Bool.false_and, Bool.and_true, Bool.and_false, Bool.true_or, Bool.false_or, Bool.or_true, Bool.or_false, Bool.not_true, Bool.not_false, Bool.or_self, Bool.and_self, Bool.not_not]
        rw [d1, Bool.true_and] at hP
        cases d2 : ((t.keys.items.take k2).any fun o => eqI y.items o.items)
        · rw [d2, Bool.not_false, Bool.true_and] at hP
          refine gw (an ht (an c1 (an c2 (an c3 (an c4 (an c5 (an b1 (an b2 (an b3 (an b4 (an hbn (an b5 (an b6 (an l_y (an g_y (an w_y (an c6 (an c7 (an c8 (an d1 d2)))))))))))))))))))) ?_
          exact ⟨(k2 + 1, g2 ++ [[sl 1 I y]]), by simp +decide only[go_sem,reduceAdd,reduceMul,reduceSub,ht,c1,c2,c3,c4,c5,b1,b2,b3,b4,hbn,b5,b6,l_y,g_y,w_y,c6,c7,c8,d1,d2] <;> rfl, ⟨by simp only; omega, hP⟩, by simp only; omega⟩
        · rw [d2, Bool.not_true, Bool.false_and] at hP
          refine gw (an ht (an c1 (an c2 (an c3 (an c4 (an c5 (an b1 (an b2 (an b3 (an b4 (an hbn (an b5 (an b6 (an l_y (an g_y (an w_y (an c6 (an c7 (an c8 (an d1 d2)))))))))))))))))))) ?_
          simp +decide only[go_sem,reduceAdd,reduceMul,reduceSub,ht,c1,c2,c3,c4,c5,b1,b2,b3,b4,hbn,b5,b6,l_y,g_y,w_y,c6,c7,c8,d1,d2]
          rw [← hP]
          simp only [ht, c1, c2, c3, c4, c5, b1, b2, b3, b4, hbn, b5, b6, l_y, g_y, w_y, c6, c7, c8, d1, d2, cond_true, cond_false, Bool.true_and, Bool.false_and, Bool.and_true, Bool.and_false, Bool.true_or, Bool.false_or, Bool.or_true, Bool.or_false, Bool.not_true, Bool.not_false, Bool.or_self, Bool.and_self, Bool.not_not]
      have l_e2 : ((k2 : Int) < ((t.keys.items).length : Int)) = False := by simp; omega
      rw [List.drop_eq_nil_of_le (by omega), keysV] at hP
      rw [← hP]
      have c9 := all100 t.fgns 53 [.ptr g2.length 0, .ptr (g2.length + 1) 0, .ptr (g2.length + 1 + 1) 0] ⟨g2 ++ [[.str t.name, sl 6 encCol t.cols, sl 1 (sl 1 I) t.keys, sl 3 encFgn t.fgns, sl 8 encEx t.checks]] ++ [[.int .i64 (j : Int)]] ++ [[sl 5 encTbl s]], []⟩ (fgV s.items j t) (eq_true (by decide)) fun y hy => vfg130 s j t y hn _ _ _ _ (by rw [show ∀ (g : List (List D)) (a b c d : List D), g ++ [a] ++ [b] ++ [c] ++ [d] = g ++ [a] ++ [b, c, d] from fun g a b c d => by simp]; exact at1 _ _ _) (by rw [show ∀ (g : List (List D)) (a b c d : List D), g ++ [a] ++ [b] ++ [c] ++ [d] = g ++ [a] ++ [b] ++ [c, d] from fun g a b c d => by simp]; exact at2 _ _ _ _) (at3 _ _ _ _ _)
      repeat (first|(with_reducible first|refine q1 ?_|refine q2 ?_|refine q3 ?_|refine q4 ?_|refine q5 ?_|refine q6 ?_|refine q7 ?_|refine q8 ?_|refine q9 ?_|refine q10 ?_|refine q11 ?_|refine q12 (by decide) ?_)|((first|with_reducible refine q13 ?_|((with_reducible refine q14 ?_ ?_);focus exact rfl));intro K hK;simp +decide only[go_sem,reduceAdd,reduceMul,reduceSub,ht,c1,c2,c3,c4,c5,b1,b2,b3,b4,hbn,b5,b6,l_e2,c9,List.length_append,List.length_cons,List.length_nil,Nat.zero_add];with_reducible refine hK _ ?_;clear hK K)|(with_reducible refine q15 ?_;intro K J hK hJ;simp +decide only[go_sem,reduceAdd,reduceMul,reduceSub,ht,c1,c2,c3,c4,c5,b1,b2,b3,b4,hbn,b5,b6,l_e2,c9,List.length_append,List.length_cons,List.length_nil,Nat.zero_add];(with_reducible first|refine hK ?_|refine hJ ?_);clear hK hJ K J))
      (simp +decide only[go_sem,reduceAdd,reduceMul,reduceSub,ht,c1,c2,c3,c4,c5,b1,b2,b3,b4,hbn,b5,b6,l_e2,c9,List.length_append,List.length_cons,List.length_nil,Nat.zero_add]) <;> (try (simp only [ht, c1, c2, c3, c4, c5, b1, b2, b3, b4, hbn, b5, b6, l_e2, c9, List.length_append, List.length_cons, List.length_nil, Nat.zero_add, cond_true, cond_false, Bool.true_and, Bool.false_and, Bool.and_true, Bool.and_false, Bool.true_or, Bool.false_or, Bool.or_true, Bool.or_false, Bool.not_true, Bool.not_false, Bool.or_self, Bool.and_self, Bool.not_not])) <;> (first | exact ⟨trivial, trivial⟩ | exact ⟨rfl, trivial⟩ | rfl | (simp; done))
    · refine gw (an ht (an c1 (an c2 (an c3 (an c4 (an c5 (an b1 (an b2 (an b3 (an b4 (an hbn (an b5 b6)))))))))))) ?_
      (simp +decide only[go_sem,reduceAdd,reduceMul,reduceSub,ht,c1,c2,c3,c4,c5,b1,b2,b3,b4,hbn,b5,b6]) <;> (try (simp only [ht, c1, c2, c3, c4, c5, b1, b2, b3, b4, hbn, b5, b6, cond_true, cond_false, Bool.true_and, Bool.false_and, Bool.and_true, Bool.and_false, Bool.true_or, Bool.false_or, Bool.or_true, Bool.or_false, Bool.not_true, Bool.not_false, Bool.or_self, Bool.and_self, Bool.not_not])) <;> (first | exact ⟨trivial, trivial⟩ | exact ⟨rfl, trivial⟩ | rfl | (simp; done))
  · rw [decide_eq_false (show ¬ some j = some n by simpa using hjn)]
    have hbn : ((j : Int) != (n : Int)) = true := by simp; omega
    refine gw (an ht (an c1 (an c2 (an c3 (an c4 (an c5 (an b1 (an b2 (an b3 (an b4 hbn)))))))))) ?_
    (simp +decide only[go_sem,reduceAdd,reduceMul,reduceSub,ht,c1,c2,c3,c4,c5,b1,b2,b3,b4,hbn]) <;> (try (simp only [ht, c1, c2, c3, c4, c5, b1, b2, b3, b4, hbn, cond_true, cond_false, Bool.true_and, Bool.false_and, Bool.and_true, Bool.and_false, Bool.true_or, Bool.false_or, Bool.or_true, Bool.or_false, Bool.not_true, Bool.not_false, Bool.or_self, Bool.and_self, Bool.not_not])) <;> (first | exact ⟨trivial, trivial⟩ | exact ⟨rfl, trivial⟩ | rfl | (simp; done))
def valL (s : List Tbl) : Nat → List Tbl → Bool
  | _, [] => true
  | n, t :: r => validB s n t && valL s (n + 1) r
theorem valid38 (s : Sl Tbl) (hs : ∀ t ∈ s.items, SmallT t) : callP (XG GK) TT 16 [sl 5 encTbl s] = some (.bool (decide (s.items.length ≤ 8) && valL s.items 0 s.items)) := by
  refine callP_val T16 rfl (by simp only [go_sem]) ?_
  unfold Tryz.f16
  simp only [Option.getD_some]
  have hlt := s.lt
  by_cases b : (8 : Int) < (s.items.length : Int)
  · rw [decide_eq_false (show ¬ s.items.length ≤ 8 by omega)]
    simp +decide only[go_sem,reduceAdd,reduceMul,reduceSub,b]
    refine gw b ?_
    (simp +decide only[go_sem,reduceAdd,reduceMul,reduceSub,b]) <;> (try (simp only [b, cond_true, cond_false, Bool.true_and, Bool.false_and, Bool.and_true, Bool.and_false, Bool.true_or, Bool.false_or, Bool.or_true, Bool.or_false, Bool.not_true, Bool.not_false, Bool.or_self, Bool.and_self, Bool.not_not])) <;> (first | exact ⟨trivial, trivial⟩ | exact ⟨rfl, trivial⟩ | rfl | (simp; done))
  rw [decide_eq_true (show s.items.length ≤ 8 by omega), Bool.true_and]
  simp +decide only[go_sem,reduceAdd,reduceMul,reduceSub,b]
  refine gw b ?_
  refine wpI_loopC (T := Nat) [0, 8, 9] rfl (by simp +decide only[go_sem,reduceAdd,reduceMul,reduceSub,b]; exact rfl) (fun k => [(9, .int .i64 (k : Int))]) (fun _ => []) (fun _ => ⟨[], []⟩) (fun k => k ≤ s.items.length ∧ valL s.items k (s.items.drop k) = valL s.items 0 s.items) (fun k => s.items.length - k) 0 (by simp +decide only[go_sem,reduceAdd,reduceMul,reduceSub,b] <;> rfl) (by simp) ?_
  rintro k ⟨hk, hP⟩
  by_cases h : k < s.items.length
  · have l_x : ((k : Int) < ((s.items).length : Int)) = True := by simp; omega
    obtain ⟨x, g_x⟩ : ∃ a_, (s.items)[k]? = some a_ := ⟨_, List.getElem?_eq_getElem (by assumption)⟩
    have w_x := wrap_nat k (by omega)
    rw [dropc g_x, valL] at hP
    have c1 := val79 s k x g_x (hs x (List.mem_of_getElem? g_x))
    cases c : (validB s.items k x)
    · rw [c, Bool.false_and] at hP
      refine gw (an b (an l_x (an g_x (an w_x (an c1 c))))) ?_
      simp +decide only[go_sem,reduceAdd,reduceMul,reduceSub,b,l_x,g_x,w_x,c1,c]
      rw [← hP]
    · rw [c, Bool.true_and] at hP
      refine gw (an b (an l_x (an g_x (an w_x (an c1 c))))) ?_
      exact ⟨k + 1, by simp +decide only[go_sem,reduceAdd,reduceMul,reduceSub,b,l_x,g_x,w_x,c1,c] <;> rfl, ⟨by omega, hP⟩, by omega⟩
  · have l_x : ((k : Int) < ((s.items).length : Int)) = False := by simp; omega
    rw [List.drop_eq_nil_of_le (by omega), valL] at hP
    refine gw (an b l_x) ?_
    simp +decide only[go_sem,reduceAdd,reduceMul,reduceSub,b,l_x]
    rw [← hP]
end Go.Eng
