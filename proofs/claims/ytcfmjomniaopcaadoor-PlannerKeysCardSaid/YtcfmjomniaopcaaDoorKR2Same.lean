/- A part of the proof: see the last text. -/
import Derived.Test.YtcfmjomniaopcaaDoorKR2Ex2
import Derived.Test.YtcfmjomniaopcaaDoorR2Copy
set_option linter.unusedSimpArgs false
set_option linter.unusedVariables false
/- Lists that are alike. -/
namespace Go.Eng
open Go Go.Proofs
/-- Lists of the same length, alike place by place. -/
def AlikeL {α : Type} (P : α → α → Prop) (a b : List α) : Prop := a.length = b.length ∧ ∀ (i : Nat) (x y : α), a[i]? = some x → b[i]? = some y → P x y
def AlikeF (f g : Fgn) : Prop := f.cols.items = g.cols.items ∧ f.table.1 = g.table.1 ∧ f.key.1 = g.key.1
end Go.Eng
/- The reference finds equal what is alike. -/
namespace Go.Eng
open Go Go.Proofs
open Nat (reduceAdd reduceMul reduceSub)
set_option maxRecDepth 20000
set_option maxHeartbeats 32000000
theorem bneI (a : Int) : (a != a) = false := by simp
theorem expr_step (e : Ex) (r : ExR) (he : encEx e = r.enc) (ih : ∀ x ∈ r.args.items, callP (XG GK) TT 52 [encEx x, encEx x] = some (.bool true)) : callP (XG GK) TT 52 [encEx e, encEx e] = some (.bool true) := by
  rw [he]
  refine callP_val T52 rfl (by simp only [go_sem, strip_ExR]) ?_
  unfold Tryd.f52
  simp only [Option.getD_some]
  have hlt := r.args.lt
  simp +decide only[go_sem,reduceAdd,reduceMul,reduceSub,bneI]
  repeat (first|(with_reducible first|refine q1 ?_|refine q2 ?_|refine q3 ?_|refine q4 ?_|refine q5 ?_|refine q6 ?_|refine q7 ?_|refine q8 ?_|refine q9 ?_|refine q10 ?_|refine q11 ?_|refine q12 (by decide) ?_)|((first|with_reducible refine q13 ?_|((with_reducible refine q14 ?_ ?_);focus exact rfl));intro K hK;simp +decide only[go_sem,reduceAdd,reduceMul,reduceSub,bneI];with_reducible refine hK _ ?_;clear hK K)|(with_reducible refine q15 ?_;intro K J hK hJ;simp +decide only[go_sem,reduceAdd,reduceMul,reduceSub,bneI];(with_reducible first|refine hK ?_|refine hJ ?_);clear hK hJ K J))
  refine wpI_loopC (T := Nat) [2, 3, 5] rfl (by simp +decide only[go_sem,reduceAdd,reduceMul,reduceSub,bneI]; exact rfl) (fun k => [(5, .int .i64 (k : Int))]) (fun _ => []) (fun _ => ⟨[], []⟩) (fun k => k ≤ r.args.items.length) (fun k => r.args.items.length - k) 0 (by simp +decide only[go_sem,reduceAdd,reduceMul,reduceSub,bneI] <;> rfl) (by simp) ?_
  rintro k hk
  by_cases h : k < r.args.items.length
  · have l_x : ((k : Int) < ((r.args.items).length : Int)) = True := by simp; omega
    obtain ⟨x, g_x⟩ : ∃ a_, (r.args.items)[k]? = some a_ := ⟨_, List.getElem?_eq_getElem (by assumption)⟩
    have w_x := wrap_nat k (by omega)
    have hx := ih x (List.mem_of_getElem? g_x)
    repeat (first|(with_reducible first|refine q1 ?_|refine q2 ?_|refine q3 ?_|refine q4 ?_|refine q5 ?_|refine q6 ?_|refine q7 ?_|refine q8 ?_|refine q9 ?_|refine q10 ?_|refine q11 ?_|refine q12 (by decide) ?_)|((first|with_reducible refine q13 ?_|((with_reducible refine q14 ?_ ?_);focus exact rfl));intro K hK;simp +decide only[go_sem,reduceAdd,reduceMul,reduceSub,bneI,l_x,g_x,w_x,hx];with_reducible refine hK _ ?_;clear hK K)|(with_reducible refine q15 ?_;intro K J hK hJ;simp +decide only[go_sem,reduceAdd,reduceMul,reduceSub,bneI,l_x,g_x,w_x,hx];(with_reducible first|refine hK ?_|refine hJ ?_);clear hK hJ K J))
    exact ⟨(k + 1), by simp +decide only[go_sem,reduceAdd,reduceMul,reduceSub,bneI,l_x,g_x,w_x] <;> rfl, by omega, by omega⟩
  · have l_x : ((k : Int) < ((r.args.items).length : Int)) = False := by simp; omega
    repeat (first|(with_reducible first|refine q1 ?_|refine q2 ?_|refine q3 ?_|refine q4 ?_|refine q5 ?_|refine q6 ?_|refine q7 ?_|refine q8 ?_|refine q9 ?_|refine q10 ?_|refine q11 ?_|refine q12 (by decide) ?_)|((first|with_reducible refine q13 ?_|((with_reducible refine q14 ?_ ?_);focus exact rfl));intro K hK;simp +decide only[go_sem,reduceAdd,reduceMul,reduceSub,bneI,l_x];with_reducible refine hK _ ?_;clear hK K)|(with_reducible refine q15 ?_;intro K J hK hJ;simp +decide only[go_sem,reduceAdd,reduceMul,reduceSub,bneI,l_x];(with_reducible first|refine hK ?_|refine hJ ?_);clear hK hJ K J))
    simp +decide only[go_sem,reduceAdd,reduceMul,reduceSub,bneI,l_x]
theorem expr_n : ∀ (N : Nat) (e : Ex), SizeOf.sizeOf (encEx e) < N → callP (XG GK) TT 52 [encEx e, encEx e] = some (.bool true)
  | 0, e, h => absurd h (Nat.not_lt_zero _)
  | N + 1, e, h => by
    obtain ⟨r, he, hs⟩ := e.open
    exact expr_step e r he fun x hx => expr_n N x (by have := hs x hx; omega)
theorem expr52 (e : Ex) : callP (XG GK) TT 52 [encEx e, encEx e] = some (.bool true) := expr_n _ e (Nat.lt_succ_self _)
def AlikeT (t u : Tbl) : Prop := t.name = u.name ∧ t.cols.items = u.cols.items ∧ t.checks.items = u.checks.items ∧ AlikeL (fun x y : Sl I64 => x.items = y.items) t.keys.items u.keys.items ∧ AlikeL AlikeF t.fgns.items u.fgns.items
end Go.Eng
