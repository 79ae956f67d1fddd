/- A part of the proof: see the last text. -/
import Derived.Test.YtcfmjomniaopcaaDoorR2SmallT
import Derived.Test.YtcfmjomniaopcaaDoorEngA
set_option linter.unusedSimpArgs false
set_option linter.unusedVariables false
namespace Go.Eng
open Go Go.Proofs
variable {G : Nat → Option (List D)}
@[go_sem] theorem ty_na_77 : isStruct Tryd.prog 77 = false := by kernel_rfl
def pr (p : Nat × Nat) : D := .agg [.int .i64 (p.1 : Int), .int .i64 (p.2 : Int)]
/-- The keys of one table that refer to a table. -/
def rin (n : Int) (i : Nat) : Nat → List Fgn → List (Nat × Nat)
  | _, [] => []
  | j, f :: r => (if f.table.1 = n then [(i, j)] else []) ++ rin n i (j + 1) r
/-- The keys that refer to a table. -/
def rout (n : Int) : Nat → List Tbl → List (Nat × Nat)
  | _, [] => []
  | i, t :: r => rin n i 0 t.fgns.items ++ rout n (i + 1) r
theorem rin_len (n : Int) (i : Nat) : ∀ (l : List Fgn) (j : Nat), (rin n i j l).length ≤ l.length
  | [], _ => Nat.le_refl _
  | f :: r, j => by
    simp only [rin, List.length_append, List.length_cons]
    have := rin_len n i r (j + 1)
    split <;> simp <;> omega
theorem rout_len (n : Int) : ∀ (l : List Tbl) (i : Nat), (∀ x ∈ l, SmallT x) → (rout n i l).length ≤ 10 * l.length
  | [], _, _ => Nat.le_refl _
  | t :: r, i, h => by
    simp only [rout, List.length_append, List.length_cons]
    have := rout_len n r (i + 1) fun x hx => h x (by simp [hx])
    have h2 := rin_len n i t.fgns.items 0
    have h3 := (h t (by simp)).2.2.1
    omega
theorem strip_prs {g : Nat → Nat → Nat → Nat → D} (l : List (Nat × Nat)) : stripFL g (l.map pr) = l.map pr := stripFL_map pr (fun _ => rfl) l
theorem drop_cons {α : Type} {l : List α} {k : Nat} {a : α} (h : l[k]? = some a) : l.drop k = a :: l.drop (k + 1) := by
  obtain ⟨hk, rfl⟩ := List.getElem?_eq_some_iff.1 h
  exact List.drop_eq_getElem_cons hk
set_option maxRecDepth 20000 in
set_option maxHeartbeats 8000000 in
theorem ref30 (s : Sl Tbl) (n : Int) (hs : s.items.length ≤ 12) (hS : ∀ x ∈ s.items, SmallT x) : callP (XG G) TT 30 [sl 5 encTbl s, .int .i64 n] = some (outD 2 ((rout n 0 s.items).map pr)) := by
  refine callP_val T30 rfl (by simp only [go_sem]) ?_
  unfold Tryd.f30
  simp only [Option.getD_some]
  have hlt := s.lt
  have htot := rout_len n s.items 0 hS
  simp (decide := true) only [go_sem, bne_self_eq_false, beq_self_eq_true, List.replicate_succ, List.replicate_zero, Nat.reduceAdd, Nat.reduceMul, Nat.reduceSub]
  repeat (first | (first | with_reducible refine wpI_seq ?_ | with_reducible refine wpI_block ?_ | with_reducible refine wpI_skip ?_ | with_reducible refine wpI_exit ?_ | with_reducible refine wpI_ret ?_ | with_reducible refine thenP_normal ?_ | with_reducible refine thenP_ret ?_ | with_reducible refine thenP_exit ?_ | with_reducible refine blockP_normal ?_ | with_reducible refine blockP_ret ?_ | with_reducible refine blockP_here ?_ | with_reducible refine blockP_far (by decide) ?_) | (with_reducible refine wpI_region ?_; intro K hK; simp (decide := true) only [go_sem, bne_self_eq_false, beq_self_eq_true, List.replicate_succ, List.replicate_zero, Nat.reduceAdd, Nat.reduceMul, Nat.reduceSub]; with_reducible refine hK _ ?_; clear hK K) | (with_reducible refine wpI_regionN rfl ?_; intro K hK; simp (decide := true) only [go_sem, bne_self_eq_false, beq_self_eq_true, List.replicate_succ, List.replicate_zero, Nat.reduceAdd, Nat.reduceMul, Nat.reduceSub]; with_reducible refine hK _ ?_; clear hK K) | (with_reducible refine wpI_cond_true ?_ ?_; focus (simp (decide := true) only [go_sem, bne_self_eq_false, beq_self_eq_true, List.replicate_succ, List.replicate_zero, Nat.reduceAdd, Nat.reduceMul, Nat.reduceSub]; done)) | (with_reducible refine wpI_cond_false ?_ ?_; focus (simp (decide := true) only [go_sem, bne_self_eq_false, beq_self_eq_true, List.replicate_succ, List.replicate_zero, Nat.reduceAdd, Nat.reduceMul, Nat.reduceSub]; done)))
  refine wpI_loop (T := Nat × List (Nat × Nat)) [0, 1, 5, 6] (fun p => ⟨slL [(0, sl 5 encTbl s), (1, .int .i64 n), (5, accD 2 (p.2.map pr)), (6, .int .i64 (p.1 : Int))], opL [], opL [], ⟨[], accT (p.2.map pr)⟩⟩) (fun p => p.1 ≤ s.items.length ∧ p.2 ++ rout n p.1 (s.items.drop p.1) = rout n 0 s.items) (fun p => s.items.length - p.1) (0, []) rfl (by simp (decide := true) only [go_sem, bne_self_eq_false, beq_self_eq_true, List.replicate_succ, List.replicate_zero, Nat.reduceAdd, Nat.reduceMul, Nat.reduceSub] <;> rfl) (by simp) ?_
  rintro ⟨k, acc⟩ ⟨hk, hP⟩
  dsimp only at hk hP ⊢
  by_cases h : k < s.items.length
  · have l_x : ((k : Int) < ((s.items).length : Int)) = True := by simp; omega
    obtain ⟨x, g_x⟩ : ∃ a, (s.items)[k]? = some a := ⟨_, List.getElem?_eq_getElem (by assumption)⟩
    have w_x := wrap_nat k (by omega)
    rw [drop_cons g_x, rout] at hP
    repeat (first | (first | with_reducible refine wpI_seq ?_ | with_reducible refine wpI_block ?_ | with_reducible refine wpI_skip ?_ | with_reducible refine wpI_exit ?_ | with_reducible refine wpI_ret ?_ | with_reducible refine thenP_normal ?_ | with_reducible refine thenP_ret ?_ | with_reducible refine thenP_exit ?_ | with_reducible refine blockP_normal ?_ | with_reducible refine blockP_ret ?_ | with_reducible refine blockP_here ?_ | with_reducible refine blockP_far (by decide) ?_) | (with_reducible refine wpI_region ?_; intro K hK; simp (decide := true) only [go_sem, bne_self_eq_false, beq_self_eq_true, List.replicate_succ, List.replicate_zero, Nat.reduceAdd, Nat.reduceMul, Nat.reduceSub, l_x, g_x, w_x]; with_reducible refine hK _ ?_; clear hK K) | (with_reducible refine wpI_regionN rfl ?_; intro K hK; simp (decide := true) only [go_sem, bne_self_eq_false, beq_self_eq_true, List.replicate_succ, List.replicate_zero, Nat.reduceAdd, Nat.reduceMul, Nat.reduceSub, l_x, g_x, w_x]; with_reducible refine hK _ ?_; clear hK K) | (with_reducible refine wpI_cond_true ?_ ?_; focus (simp (decide := true) only [go_sem, bne_self_eq_false, beq_self_eq_true, List.replicate_succ, List.replicate_zero, Nat.reduceAdd, Nat.reduceMul, Nat.reduceSub, l_x, g_x, w_x]; done)) | (with_reducible refine wpI_cond_false ?_ ?_; focus (simp (decide := true) only [go_sem, bne_self_eq_false, beq_self_eq_true, List.replicate_succ, List.replicate_zero, Nat.reduceAdd, Nat.reduceMul, Nat.reduceSub, l_x, g_x, w_x]; done)))
    refine wpI_loop (T := Nat × List (Nat × Nat)) [0, 1, 5, 6, 7] (fun p => ⟨slL [(0, sl 5 encTbl s), (1, .int .i64 n), (5, accD 2 (p.2.map pr)), (6, .int .i64 (k : Int)), (7, .int .i64 (p.1 : Int))], opL [], opL [], ⟨[], accT (p.2.map pr)⟩⟩) (fun p => p.1 ≤ x.fgns.items.length ∧ p.2 ++ (rin n k p.1 (x.fgns.items.drop p.1) ++ rout n (k + 1) (s.items.drop (k + 1))) = rout n 0 s.items) (fun p => x.fgns.items.length - p.1) (0, acc) rfl (by simp (decide := true) only [go_sem, bne_self_eq_false, beq_self_eq_true, List.replicate_succ, List.replicate_zero, Nat.reduceAdd, Nat.reduceMul, Nat.reduceSub] <;> rfl) (by simpa using hP) ?_
    rintro ⟨k1, acc1⟩ ⟨hk1, hP1⟩
    dsimp only at hk1 hP1 ⊢
    have hlt1 := x.fgns.lt
    by_cases h1 : k1 < x.fgns.items.length
    · have l_y : ((k1 : Int) < ((x.fgns.items).length : Int)) = True := by simp; omega
      obtain ⟨y, g_y⟩ : ∃ a, (x.fgns.items)[k1]? = some a := ⟨_, List.getElem?_eq_getElem (by assumption)⟩
      have w_y := wrap_nat k1 (by omega)
      rw [drop_cons g_y, rin] at hP1
      by_cases c : y.table.1 = n
      · rw [if_pos c] at hP1
        have hl : acc1.length + 1 ≤ 16777216 := by
          have := congrArg List.length hP1
          simp only [List.length_append, List.length_cons, List.length_nil] at this
          omega
        have hl : ((acc1.map pr).length + 1 ≤ 16777216) = True := by simpa using hl
        have c : (y.table.1 == n) = true := by simp [c]
        repeat (first | (first | with_reducible refine wpI_seq ?_ | with_reducible refine wpI_block ?_ | with_reducible refine wpI_skip ?_ | with_reducible refine wpI_exit ?_ | with_reducible refine wpI_ret ?_ | with_reducible refine thenP_normal ?_ | with_reducible refine thenP_ret ?_ | with_reducible refine thenP_exit ?_ | with_reducible refine blockP_normal ?_ | with_reducible refine blockP_ret ?_ | with_reducible refine blockP_here ?_ | with_reducible refine blockP_far (by decide) ?_) | (with_reducible refine wpI_region ?_; intro K hK; simp (decide := true) only [go_sem, bne_self_eq_false, beq_self_eq_true, List.replicate_succ, List.replicate_zero, Nat.reduceAdd, Nat.reduceMul, Nat.reduceSub, l_x, g_x, l_y, g_y, w_y, c, hl]; with_reducible refine hK _ ?_; clear hK K) | (with_reducible refine wpI_regionN rfl ?_; intro K hK; simp (decide := true) only [go_sem, bne_self_eq_false, beq_self_eq_true, List.replicate_succ, List.replicate_zero, Nat.reduceAdd, Nat.reduceMul, Nat.reduceSub, l_x, g_x, l_y, g_y, w_y, c, hl]; with_reducible refine hK _ ?_; clear hK K) | (with_reducible refine wpI_cond_true ?_ ?_; focus (simp (decide := true) only [go_sem, bne_self_eq_false, beq_self_eq_true, List.replicate_succ, List.replicate_zero, Nat.reduceAdd, Nat.reduceMul, Nat.reduceSub, l_x, g_x, l_y, g_y, w_y, c, hl]; done)) | (with_reducible refine wpI_cond_false ?_ ?_; focus (simp (decide := true) only [go_sem, bne_self_eq_false, beq_self_eq_true, List.replicate_succ, List.replicate_zero, Nat.reduceAdd, Nat.reduceMul, Nat.reduceSub, l_x, g_x, l_y, g_y, w_y, c, hl]; done)))
        refine ⟨(k1 + 1, acc1 ++ [(k, k1)]), ?_, ⟨by dsimp only; omega, by simpa using hP1⟩, by dsimp only; omega⟩
        rw [List.map_append]
        exact by simp (decide := true) only [go_sem, bne_self_eq_false, beq_self_eq_true, List.replicate_succ, List.replicate_zero, Nat.reduceAdd, Nat.reduceMul, Nat.reduceSub] <;> rfl
      · rw [if_neg c] at hP1
        have c : (y.table.1 == n) = false := by simp [c]
        repeat (first | (first | with_reducible refine wpI_seq ?_ | with_reducible refine wpI_block ?_ | with_reducible refine wpI_skip ?_ | with_reducible refine wpI_exit ?_ | with_reducible refine wpI_ret ?_ | with_reducible refine thenP_normal ?_ | with_reducible refine thenP_ret ?_ | with_reducible refine thenP_exit ?_ | with_reducible refine blockP_normal ?_ | with_reducible refine blockP_ret ?_ | with_reducible refine blockP_here ?_ | with_reducible refine blockP_far (by decide) ?_) | (with_reducible refine wpI_region ?_; intro K hK; simp (decide := true) only [go_sem, bne_self_eq_false, beq_self_eq_true, List.replicate_succ, List.replicate_zero, Nat.reduceAdd, Nat.reduceMul, Nat.reduceSub, l_x, g_x, l_y, g_y, w_y, c]; with_reducible refine hK _ ?_; clear hK K) | (with_reducible refine wpI_regionN rfl ?_; intro K hK; simp (decide := true) only [go_sem, bne_self_eq_false, beq_self_eq_true, List.replicate_succ, List.replicate_zero, Nat.reduceAdd, Nat.reduceMul, Nat.reduceSub, l_x, g_x, l_y, g_y, w_y, c]; with_reducible refine hK _ ?_; clear hK K) | (with_reducible refine wpI_cond_true ?_ ?_; focus (simp (decide := true) only [go_sem, bne_self_eq_false, beq_self_eq_true, List.replicate_succ, List.replicate_zero, Nat.reduceAdd, Nat.reduceMul, Nat.reduceSub, l_x, g_x, l_y, g_y, w_y, c]; done)) | (with_reducible refine wpI_cond_false ?_ ?_; focus (simp (decide := true) only [go_sem, bne_self_eq_false, beq_self_eq_true, List.replicate_succ, List.replicate_zero, Nat.reduceAdd, Nat.reduceMul, Nat.reduceSub, l_x, g_x, l_y, g_y, w_y, c]; done)))
        exact ⟨(k1 + 1, acc1), by simp (decide := true) only [go_sem, bne_self_eq_false, beq_self_eq_true, List.replicate_succ, List.replicate_zero, Nat.reduceAdd, Nat.reduceMul, Nat.reduceSub] <;> rfl, ⟨by dsimp only; omega, by simpa using hP1⟩, by dsimp only; omega⟩
    · have l_e1 : ((k1 : Int) < ((x.fgns.items).length : Int)) = False := by simp; omega
      rw [List.drop_eq_nil_of_le (by omega), rin] at hP1
      repeat (first | (first | with_reducible refine wpI_seq ?_ | with_reducible refine wpI_block ?_ | with_reducible refine wpI_skip ?_ | with_reducible refine wpI_exit ?_ | with_reducible refine wpI_ret ?_ | with_reducible refine thenP_normal ?_ | with_reducible refine thenP_ret ?_ | with_reducible refine thenP_exit ?_ | with_reducible refine blockP_normal ?_ | with_reducible refine blockP_ret ?_ | with_reducible refine blockP_here ?_ | with_reducible refine blockP_far (by decide) ?_) | (with_reducible refine wpI_region ?_; intro K hK; simp (decide := true) only [go_sem, bne_self_eq_false, beq_self_eq_true, List.replicate_succ, List.replicate_zero, Nat.reduceAdd, Nat.reduceMul, Nat.reduceSub, l_x, g_x, l_e1, w_x]; with_reducible refine hK _ ?_; clear hK K) | (with_reducible refine wpI_regionN rfl ?_; intro K hK; simp (decide := true) only [go_sem, bne_self_eq_false, beq_self_eq_true, List.replicate_succ, List.replicate_zero, Nat.reduceAdd, Nat.reduceMul, Nat.reduceSub, l_x, g_x, l_e1, w_x]; with_reducible refine hK _ ?_; clear hK K) | (with_reducible refine wpI_cond_true ?_ ?_; focus (simp (decide := true) only [go_sem, bne_self_eq_false, beq_self_eq_true, List.replicate_succ, List.replicate_zero, Nat.reduceAdd, Nat.reduceMul, Nat.reduceSub, l_x, g_x, l_e1, w_x]; done)) | (with_reducible refine wpI_cond_false ?_ ?_; focus (simp (decide := true) only [go_sem, bne_self_eq_false, beq_self_eq_true, List.replicate_succ, List.replicate_zero, Nat.reduceAdd, Nat.reduceMul, Nat.reduceSub, l_x, g_x, l_e1, w_x]; done)))
      exact ⟨(k + 1, acc1), by simp (decide := true) only [go_sem, bne_self_eq_false, beq_self_eq_true, List.replicate_succ, List.replicate_zero, Nat.reduceAdd, Nat.reduceMul, Nat.reduceSub] <;> rfl, ⟨by dsimp only; omega, by simpa using hP1⟩, by dsimp only; omega⟩
  · have l_x : ((k : Int) < ((s.items).length : Int)) = False := by simp; omega
    rw [List.drop_eq_nil_of_le (by omega), rout, List.append_nil] at hP
    subst hP
    repeat (first | (first | with_reducible refine wpI_seq ?_ | with_reducible refine wpI_block ?_ | with_reducible refine wpI_skip ?_ | with_reducible refine wpI_exit ?_ | with_reducible refine wpI_ret ?_ | with_reducible refine thenP_normal ?_ | with_reducible refine thenP_ret ?_ | with_reducible refine thenP_exit ?_ | with_reducible refine blockP_normal ?_ | with_reducible refine blockP_ret ?_ | with_reducible refine blockP_here ?_ | with_reducible refine blockP_far (by decide) ?_) | (with_reducible refine wpI_region ?_; intro K hK; simp (decide := true) only [go_sem, bne_self_eq_false, beq_self_eq_true, List.replicate_succ, List.replicate_zero, Nat.reduceAdd, Nat.reduceMul, Nat.reduceSub, l_x]; with_reducible refine hK _ ?_; clear hK K) | (with_reducible refine wpI_regionN rfl ?_; intro K hK; simp (decide := true) only [go_sem, bne_self_eq_false, beq_self_eq_true, List.replicate_succ, List.replicate_zero, Nat.reduceAdd, Nat.reduceMul, Nat.reduceSub, l_x]; with_reducible refine hK _ ?_; clear hK K) | (with_reducible refine wpI_cond_true ?_ ?_; focus (simp (decide := true) only [go_sem, bne_self_eq_false, beq_self_eq_true, List.replicate_succ, List.replicate_zero, Nat.reduceAdd, Nat.reduceMul, Nat.reduceSub, l_x]; done)) | (with_reducible refine wpI_cond_false ?_ ?_; focus (simp (decide := true) only [go_sem, bne_self_eq_false, beq_self_eq_true, List.replicate_succ, List.replicate_zero, Nat.reduceAdd, Nat.reduceMul, Nat.reduceSub, l_x]; done)))
    simp (decide := true) only [go_sem, bne_self_eq_false, beq_self_eq_true, List.replicate_succ, List.replicate_zero, Nat.reduceAdd, Nat.reduceMul, Nat.reduceSub]
    exact strip_acc (strip_prs _)
end Go.Eng
