/- A part of the proof: see the last text. -/
import Derived.Test.YtcfmjomniaopcaaDoorR2Ex
import Derived.Test.YtcfmjomniaopcaaDoorR2Copy
set_option linter.unusedSimpArgs false
set_option linter.unusedVariables false
/- Lists that are alike. -/
namespace Go.Eng
open Go Go.Proofs
/-- Lists of the same length, alike place by place. -/
def AlikeL {α : Type} (P : α → α → Prop) (a b : List α) : Prop := a.length = b.length ∧ ∀ (i : Nat) (x y : α), a[i]? = some x → b[i]? = some y → P x y
def AlikeF (f g : Fgn) : Prop := f.cols.items = g.cols.items ∧ f.table.1 = g.table.1 ∧ f.key.1 = g.key.1
theorem eqI_eq : ∀ {a b : List I64}, eqI a b = true → a = b
  | [], [], _ => rfl
  | [], _ :: _, h => by cases h
  | _ :: _, [], h => by cases h
  | x :: a, y :: b, h => by
    have h : ((x.1 == y.1) && eqF (fun x y : I64 => x.1 == y.1) a b) = true := h
    rw [Bool.and_eq_true] at h
    have h1 : x = y := Subtype.ext (by simpa using h.1)
    rw [h1, eqI_eq (a := a) (b := b) h.2]
end Go.Eng
/- The reference finds equal what is alike. -/
namespace Go.Eng
open Go Go.Proofs
open Nat (reduceAdd reduceMul reduceSub)
set_option maxRecDepth 20000
set_option maxHeartbeats 32000000
attribute [local irreducible] wpI endP
theorem bneI (a : Int) : (a != a) = false := by simp
theorem expr_step (e : Ex) (r : ExR) (he : encEx e = r.enc) (ih : ∀ x ∈ r.args.items, callP (XG GK) TT 52 [encEx x, encEx x] = some (.bool true)) : callP (XG GK) TT 52 [encEx e, encEx e] = some (.bool true) := by
  rw [he]
  refine callP_val T52 rfl (by simp only [go_sem, strip_ExR]) ?_
  unfold Tryd.f52
  simp only [Option.getD_some]
  have hlt := r.args.lt
  simp +decide only[go_sem,reduceAdd,reduceMul,reduceSub,bneI]
  repeat (first|(with_reducible first|refine q1 ?_|refine q2 ?_|refine q3 ?_|refine q4 ?_|refine q5 ?_|refine q6 ?_|refine q7 ?_|refine q8 ?_|refine q9 ?_|refine q10 ?_|refine q11 ?_|refine q12 (by decide) ?_)|((first|with_reducible refine q13 ?_|((with_reducible refine q14 ?_ ?_);focus exact rfl));intro K hK;simp +decide only[go_sem,reduceAdd,reduceMul,reduceSub,bneI];with_reducible refine hK _ ?_;clear hK K)|(with_reducible refine q15 ?_;intro K J hK hJ;simp +decide only[go_sem,reduceAdd,reduceMul,reduceSub,bneI];(with_reducible first|refine hK ?_|refine hJ ?_);clear hK hJ K J))
  refine wpI_loopC (T := Nat) [2, 3, 5] rfl (by simp +decide only[go_sem,reduceAdd,reduceMul,reduceSub,bneI]; exact rfl) (fun k => [(5, .int .i64 (k : Int))]) (fun _ => []) (fun _ => ⟨[], []⟩) (fun k => k ≤ r.args.items.length) (fun k => r.args.items.length - k) 0 (by simp +decide only[go_sem,reduceAdd,reduceMul,reduceSub,bneI] <;> rfl) (by simp) ?_
  rintro k hk
  by_cases h : k < r.args.items.length
  · have l_x : ((k : Int) < ((r.args.items).length : Int)) = True := by simp; omega
    obtain ⟨x, g_x⟩ : ∃ a_, (r.args.items)[k]? = some a_ := ⟨_, List.getElem?_eq_getElem (by assumption)⟩
    have w_x := wrap_nat k (by omega)
    have hx := ih x (List.mem_of_getElem? g_x)
    repeat (first|(with_reducible first|refine q1 ?_|refine q2 ?_|refine q3 ?_|refine q4 ?_|refine q5 ?_|refine q6 ?_|refine q7 ?_|refine q8 ?_|refine q9 ?_|refine q10 ?_|refine q11 ?_|refine q12 (by decide) ?_)|((first|with_reducible refine q13 ?_|((with_reducible refine q14 ?_ ?_);focus exact rfl));intro K hK;simp +decide only[go_sem,reduceAdd,reduceMul,reduceSub,bneI,l_x,g_x,w_x,hx];with_reducible refine hK _ ?_;clear hK K)|(with_reducible refine q15 ?_;intro K J hK hJ;simp +decide only[go_sem,reduceAdd,reduceMul,reduceSub,bneI,l_x,g_x,w_x,hx];(with_reducible first|refine hK ?_|refine hJ ?_);clear hK hJ K J))
    exact ⟨(k + 1), by simp +decide only[go_sem,reduceAdd,reduceMul,reduceSub,bneI,l_x,g_x,w_x] <;> rfl, by omega, by omega⟩
  · have l_x : ((k : Int) < ((r.args.items).length : Int)) = False := by simp; omega
    repeat (first|(with_reducible first|refine q1 ?_|refine q2 ?_|refine q3 ?_|refine q4 ?_|refine q5 ?_|refine q6 ?_|refine q7 ?_|refine q8 ?_|refine q9 ?_|refine q10 ?_|refine q11 ?_|refine q12 (by decide) ?_)|((first|with_reducible refine q13 ?_|((with_reducible refine q14 ?_ ?_);focus exact rfl));intro K hK;simp +decide only[go_sem,reduceAdd,reduceMul,reduceSub,bneI,l_x];with_reducible refine hK _ ?_;clear hK K)|(with_reducible refine q15 ?_;intro K J hK hJ;simp +decide only[go_sem,reduceAdd,reduceMul,reduceSub,bneI,l_x];(with_reducible first|refine hK ?_|refine hJ ?_);clear hK hJ K J))
    simp +decide only[go_sem,reduceAdd,reduceMul,reduceSub,bneI,l_x]
theorem expr_n : ∀ (N : Nat) (e : Ex), SizeOf.sizeOf (encEx e) < N → callP (XG GK) TT 52 [encEx e, encEx e] = some (.bool true)
  | 0, e, h => absurd h (Nat.not_lt_zero _)
  | N + 1, e, h => by
    obtain ⟨r, he, hs⟩ := e.open
    exact expr_step e r he fun x hx => expr_n N x (by have := hs x hx; omega)
theorem expr52 (e : Ex) : callP (XG GK) TT 52 [encEx e, encEx e] = some (.bool true) := expr_n _ e (Nat.lt_succ_self _)
theorem exprs61 (a b : Sl Ex) (hab : a.items = b.items) : callP (XG GK) TT 61 [sl 8 encEx a, sl 8 encEx b] = some (.bool true) := by
  refine callP_val T61 rfl (by simp only [go_sem]) ?_
  unfold Tryd.f61
  simp only [Option.getD_some]
  have hlt := a.lt
  simp +decide only[go_sem,reduceAdd,reduceMul,reduceSub,hab.symm,bneI]
  repeat (first|(with_reducible first|refine q1 ?_|refine q2 ?_|refine q3 ?_|refine q4 ?_|refine q5 ?_|refine q6 ?_|refine q7 ?_|refine q8 ?_|refine q9 ?_|refine q10 ?_|refine q11 ?_|refine q12 (by decide) ?_)|((first|with_reducible refine q13 ?_|((with_reducible refine q14 ?_ ?_);focus exact rfl));intro K hK;simp +decide only[go_sem,reduceAdd,reduceMul,reduceSub,hab.symm,bneI];with_reducible refine hK _ ?_;clear hK K)|(with_reducible refine q15 ?_;intro K J hK hJ;simp +decide only[go_sem,reduceAdd,reduceMul,reduceSub,hab.symm,bneI];(with_reducible first|refine hK ?_|refine hJ ?_);clear hK hJ K J))
  refine wpI_loopC (T := Nat) [0, 1, 5] rfl (by simp +decide only[go_sem,reduceAdd,reduceMul,reduceSub,hab.symm,bneI]; exact rfl) (fun k => [(5, .int .i64 (k : Int))]) (fun _ => []) (fun _ => ⟨[], []⟩) (fun k => k ≤ a.items.length) (fun k => a.items.length - k) 0 (by simp +decide only[go_sem,reduceAdd,reduceMul,reduceSub,hab.symm,bneI] <;> rfl) (by simp) ?_
  rintro k hk
  by_cases h : k < a.items.length
  · have l_x : ((k : Int) < ((a.items).length : Int)) = True := by simp; omega
    obtain ⟨x, g_x⟩ : ∃ a_, (a.items)[k]? = some a_ := ⟨_, List.getElem?_eq_getElem (by assumption)⟩
    have w_x := wrap_nat k (by omega)
    have hx := expr52 x
    repeat (first|(with_reducible first|refine q1 ?_|refine q2 ?_|refine q3 ?_|refine q4 ?_|refine q5 ?_|refine q6 ?_|refine q7 ?_|refine q8 ?_|refine q9 ?_|refine q10 ?_|refine q11 ?_|refine q12 (by decide) ?_)|((first|with_reducible refine q13 ?_|((with_reducible refine q14 ?_ ?_);focus exact rfl));intro K hK;simp +decide only[go_sem,reduceAdd,reduceMul,reduceSub,hab.symm,bneI,l_x,g_x,w_x,hx];with_reducible refine hK _ ?_;clear hK K)|(with_reducible refine q15 ?_;intro K J hK hJ;simp +decide only[go_sem,reduceAdd,reduceMul,reduceSub,hab.symm,bneI,l_x,g_x,w_x,hx];(with_reducible first|refine hK ?_|refine hJ ?_);clear hK hJ K J))
    exact ⟨(k + 1), by simp +decide only[go_sem,reduceAdd,reduceMul,reduceSub,hab.symm,bneI,l_x,g_x,w_x] <;> rfl, by omega, by omega⟩
  · have l_x : ((k : Int) < ((a.items).length : Int)) = False := by simp; omega
    repeat (first|(with_reducible first|refine q1 ?_|refine q2 ?_|refine q3 ?_|refine q4 ?_|refine q5 ?_|refine q6 ?_|refine q7 ?_|refine q8 ?_|refine q9 ?_|refine q10 ?_|refine q11 ?_|refine q12 (by decide) ?_)|((first|with_reducible refine q13 ?_|((with_reducible refine q14 ?_ ?_);focus exact rfl));intro K hK;simp +decide only[go_sem,reduceAdd,reduceMul,reduceSub,hab.symm,bneI,l_x];with_reducible refine hK _ ?_;clear hK K)|(with_reducible refine q15 ?_;intro K J hK hJ;simp +decide only[go_sem,reduceAdd,reduceMul,reduceSub,hab.symm,bneI,l_x];(with_reducible first|refine hK ?_|refine hJ ?_);clear hK hJ K J))
    simp +decide only[go_sem,reduceAdd,reduceMul,reduceSub,hab.symm,bneI,l_x]
theorem cols60 (a b : Sl Col) (hab : a.items = b.items) : callP (XG GK) TT 60 [sl 6 encCol a, sl 6 encCol b] = some (.bool true) := by
  refine callP_val T60 rfl (by simp only [go_sem]) ?_
  unfold Tryd.f60
  simp only [Option.getD_some]
  have hlt := a.lt
  simp +decide only[go_sem,reduceAdd,reduceMul,reduceSub,hab.symm,bneI]
  repeat (first|(with_reducible first|refine q1 ?_|refine q2 ?_|refine q3 ?_|refine q4 ?_|refine q5 ?_|refine q6 ?_|refine q7 ?_|refine q8 ?_|refine q9 ?_|refine q10 ?_|refine q11 ?_|refine q12 (by decide) ?_)|((first|with_reducible refine q13 ?_|((with_reducible refine q14 ?_ ?_);focus exact rfl));intro K hK;simp +decide only[go_sem,reduceAdd,reduceMul,reduceSub,hab.symm,bneI];with_reducible refine hK _ ?_;clear hK K)|(with_reducible refine q15 ?_;intro K J hK hJ;simp +decide only[go_sem,reduceAdd,reduceMul,reduceSub,hab.symm,bneI];(with_reducible first|refine hK ?_|refine hJ ?_);clear hK hJ K J))
  refine wpI_loopC (T := Nat) [0, 1, 5] rfl (by simp +decide only[go_sem,reduceAdd,reduceMul,reduceSub,hab.symm,bneI]; exact rfl) (fun k => [(5, .int .i64 (k : Int))]) (fun _ => []) (fun _ => ⟨[], []⟩) (fun k => k ≤ a.items.length) (fun k => a.items.length - k) 0 (by simp +decide only[go_sem,reduceAdd,reduceMul,reduceSub,hab.symm,bneI] <;> rfl) (by simp) ?_
  rintro k hk
  by_cases h : k < a.items.length
  · have l_x : ((k : Int) < ((a.items).length : Int)) = True := by simp; omega
    obtain ⟨x, g_x⟩ : ∃ a_, (a.items)[k]? = some a_ := ⟨_, List.getElem?_eq_getElem (by assumption)⟩
    have w_x := wrap_nat k (by omega)
    repeat (first|(with_reducible first|refine q1 ?_|refine q2 ?_|refine q3 ?_|refine q4 ?_|refine q5 ?_|refine q6 ?_|refine q7 ?_|refine q8 ?_|refine q9 ?_|refine q10 ?_|refine q11 ?_|refine q12 (by decide) ?_)|((first|with_reducible refine q13 ?_|((with_reducible refine q14 ?_ ?_);focus exact rfl));intro K hK;simp +decide only[go_sem,reduceAdd,reduceMul,reduceSub,hab.symm,bneI,l_x,g_x,w_x];with_reducible refine hK _ ?_;clear hK K)|(with_reducible refine q15 ?_;intro K J hK hJ;simp +decide only[go_sem,reduceAdd,reduceMul,reduceSub,hab.symm,bneI,l_x,g_x,w_x];(with_reducible first|refine hK ?_|refine hJ ?_);clear hK hJ K J))
    exact ⟨(k + 1), by simp +decide only[go_sem,reduceAdd,reduceMul,reduceSub,hab.symm,bneI,l_x,g_x,w_x] <;> rfl, by omega, by omega⟩
  · have l_x : ((k : Int) < ((a.items).length : Int)) = False := by simp; omega
    repeat (first|(with_reducible first|refine q1 ?_|refine q2 ?_|refine q3 ?_|refine q4 ?_|refine q5 ?_|refine q6 ?_|refine q7 ?_|refine q8 ?_|refine q9 ?_|refine q10 ?_|refine q11 ?_|refine q12 (by decide) ?_)|((first|with_reducible refine q13 ?_|((with_reducible refine q14 ?_ ?_);focus exact rfl));intro K hK;simp +decide only[go_sem,reduceAdd,reduceMul,reduceSub,hab.symm,bneI,l_x];with_reducible refine hK _ ?_;clear hK K)|(with_reducible refine q15 ?_;intro K J hK hJ;simp +decide only[go_sem,reduceAdd,reduceMul,reduceSub,hab.symm,bneI,l_x];(with_reducible first|refine hK ?_|refine hJ ?_);clear hK hJ K J))
    simp +decide only[go_sem,reduceAdd,reduceMul,reduceSub,hab.symm,bneI,l_x]
def AlikeT (t u : Tbl) : Prop := t.name = u.name ∧ t.cols.items = u.cols.items ∧ t.checks.items = u.checks.items ∧ AlikeL (fun x y : Sl I64 => x.items = y.items) t.keys.items u.keys.items ∧ AlikeL AlikeF t.fgns.items u.fgns.items
theorem eqF_refl {α : Type} {e : α → α → Bool} (h : ∀ a, e a a = true) : ∀ l : List α, eqF e l l = true
  | [] => rfl
  | a :: r => by rw [eqF, h, eqF_refl h r]; rfl
theorem eqI_refl (l : List I64) : eqI l l = true := eqF_refl (fun a => by simp) l
theorem alike_get {α : Type} {P : α → α → Prop} {a b : List α} (h : AlikeL P a b) {k : Nat} {x : α} (g : a[k]? = some x) : ∃ y, b[k]? = some y ∧ P x y := by
  have hk := (List.getElem?_eq_some_iff.1 g).1
  obtain ⟨y, hy⟩ : ∃ y, b[k]? = some y := ⟨_, List.getElem?_eq_getElem (h.1 ▸ hk)⟩
  exact ⟨y, hy, h.2 k x y g hy⟩
theorem same23 (a b : Sl Tbl) (hab : AlikeL AlikeT a.items b.items) : callP (XG GK) TT 23 [sl 5 encTbl a, sl 5 encTbl b] = some (.bool true) := by
  refine callP_val T23 rfl (by simp only [go_sem]) ?_
  unfold Tryd.f23
  simp only [Option.getD_some]
  have hlt := a.lt
  have hl := hab.1.symm
  simp +decide only[go_sem,reduceAdd,reduceMul,reduceSub,hl,bneI]
  repeat (first|(with_reducible first|refine q1 ?_|refine q2 ?_|refine q3 ?_|refine q4 ?_|refine q5 ?_|refine q6 ?_|refine q7 ?_|refine q8 ?_|refine q9 ?_|refine q10 ?_|refine q11 ?_|refine q12 (by decide) ?_)|((first|with_reducible refine q13 ?_|((with_reducible refine q14 ?_ ?_);focus exact rfl));intro K hK;simp +decide only[go_sem,reduceAdd,reduceMul,reduceSub,hl,bneI];with_reducible refine hK _ ?_;clear hK K)|(with_reducible refine q15 ?_;intro K J hK hJ;simp +decide only[go_sem,reduceAdd,reduceMul,reduceSub,hl,bneI];(with_reducible first|refine hK ?_|refine hJ ?_);clear hK hJ K J))
  refine wpI_loopC (T := Nat) [0, 1, 5] rfl (by simp +decide only[go_sem,reduceAdd,reduceMul,reduceSub,hl,bneI]; exact rfl) (fun k => [(5, .int .i64 (k : Int))]) (fun _ => []) (fun _ => ⟨[], []⟩) (fun k => k ≤ a.items.length) (fun k => a.items.length - k) 0 (by simp +decide only[go_sem,reduceAdd,reduceMul,reduceSub,hl,bneI] <;> rfl) (by simp) ?_
  rintro k hk
  by_cases h : k < a.items.length
  · have l_x : ((k : Int) < ((a.items).length : Int)) = True := by simp; omega
    obtain ⟨x, g_x⟩ : ∃ a_, (a.items)[k]? = some a_ := ⟨_, List.getElem?_eq_getElem (by assumption)⟩
    have w_x := wrap_nat k (by omega)
    obtain ⟨y, g_y, hn, hc, hch, hks, hfs⟩ := alike_get hab g_x
    have c1 := cols60 x.cols y.cols hc
    have c2 := exprs61 x.checks y.checks hch
    have hkl := hks.1.symm
    have hfl := hfs.1.symm
    have hkt := x.keys.lt
    have hft := x.fgns.lt
    have hn' := hn.symm
    repeat (first|(with_reducible first|refine q1 ?_|refine q2 ?_|refine q3 ?_|refine q4 ?_|refine q5 ?_|refine q6 ?_|refine q7 ?_|refine q8 ?_|refine q9 ?_|refine q10 ?_|refine q11 ?_|refine q12 (by decide) ?_)|((first|with_reducible refine q13 ?_|((with_reducible refine q14 ?_ ?_);focus exact rfl));intro K hK;simp +decide only[go_sem,reduceAdd,reduceMul,reduceSub,hl,bneI,l_x,g_x,w_x,g_y,hn',hkl,hfl,c1,c2];with_reducible refine hK _ ?_;clear hK K)|(with_reducible refine q15 ?_;intro K J hK hJ;simp +decide only[go_sem,reduceAdd,reduceMul,reduceSub,hl,bneI,l_x,g_x,w_x,g_y,hn',hkl,hfl,c1,c2];(with_reducible first|refine hK ?_|refine hJ ?_);clear hK hJ K J))
    refine wpI_loopC (T := Nat) [0, 1, 5, 6, 7, 8] rfl (by simp +decide only[go_sem,reduceAdd,reduceMul,reduceSub,hl,bneI,l_x,g_x,w_x,g_y,hn',hkl,hfl,c1,c2]; exact rfl) (fun k => [(8, .int .i64 (k : Int))]) (fun _ => []) (fun _ => ⟨[], []⟩) (fun k => k ≤ x.keys.items.length) (fun k => x.keys.items.length - k) 0 (by simp +decide only[go_sem,reduceAdd,reduceMul,reduceSub,hl,bneI,l_x,g_x,w_x,g_y,hn',hkl,hfl,c1,c2] <;> rfl) (by simp) ?_
    rintro k1 hk1
    by_cases h1 : k1 < x.keys.items.length
    · have l_p : ((k1 : Int) < ((x.keys.items).length : Int)) = True := by simp; omega
      obtain ⟨p, g_p⟩ : ∃ a_, (x.keys.items)[k1]? = some a_ := ⟨_, List.getElem?_eq_getElem (by assumption)⟩
      have w_p := wrap_nat k1 (by omega)
      obtain ⟨q, g_q, hpq⟩ := alike_get hks g_p
      have c3 := ints62 (G := GK) p q
      rw [← hpq, eqI_refl] at c3
      repeat (first|(with_reducible first|refine q1 ?_|refine q2 ?_|refine q3 ?_|refine q4 ?_|refine q5 ?_|refine q6 ?_|refine q7 ?_|refine q8 ?_|refine q9 ?_|refine q10 ?_|refine q11 ?_|refine q12 (by decide) ?_)|((first|with_reducible refine q13 ?_|((with_reducible refine q14 ?_ ?_);focus exact rfl));intro K hK;simp +decide only[go_sem,reduceAdd,reduceMul,reduceSub,hl,bneI,l_x,g_x,w_x,g_y,hn',hkl,hfl,c1,c2,l_p,g_p,w_p,g_q,c3];with_reducible refine hK _ ?_;clear hK K)|(with_reducible refine q15 ?_;intro K J hK hJ;simp +decide only[go_sem,reduceAdd,reduceMul,reduceSub,hl,bneI,l_x,g_x,w_x,g_y,hn',hkl,hfl,c1,c2,l_p,g_p,w_p,g_q,c3];(with_reducible first|refine hK ?_|refine hJ ?_);clear hK hJ K J))
      exact ⟨(k1 + 1), by simp +decide only[go_sem,reduceAdd,reduceMul,reduceSub,hl,bneI,l_x,g_x,w_x,g_y,hn',hkl,hfl,c1,c2,l_p,g_p,w_p] <;> rfl, by omega, by omega⟩
    have l_e1 : ((k1 : Int) < ((x.keys.items).length : Int)) = False := by simp; omega
    repeat (first|(with_reducible first|refine q1 ?_|refine q2 ?_|refine q3 ?_|refine q4 ?_|refine q5 ?_|refine q6 ?_|refine q7 ?_|refine q8 ?_|refine q9 ?_|refine q10 ?_|refine q11 ?_|refine q12 (by decide) ?_)|((first|with_reducible refine q13 ?_|((with_reducible refine q14 ?_ ?_);focus exact rfl));intro K hK;simp +decide only[go_sem,reduceAdd,reduceMul,reduceSub,hl,bneI,l_x,g_x,w_x,g_y,hn',hkl,hfl,c1,c2,l_e1];with_reducible refine hK _ ?_;clear hK K)|(with_reducible refine q15 ?_;intro K J hK hJ;simp +decide only[go_sem,reduceAdd,reduceMul,reduceSub,hl,bneI,l_x,g_x,w_x,g_y,hn',hkl,hfl,c1,c2,l_e1];(with_reducible first|refine hK ?_|refine hJ ?_);clear hK hJ K J))
    refine wpI_loopC (T := Nat) [0, 1, 5, 6, 7, 9] rfl (by simp +decide only[go_sem,reduceAdd,reduceMul,reduceSub,hl,bneI,l_x,g_x,w_x,g_y,hn',hkl,hfl,c1,c2,l_e1]; exact rfl) (fun k => [(9, .int .i64 (k : Int))]) (fun _ => []) (fun _ => ⟨[], []⟩) (fun k => k ≤ x.fgns.items.length) (fun k => x.fgns.items.length - k) 0 (by simp +decide only[go_sem,reduceAdd,reduceMul,reduceSub,hl,bneI,l_x,g_x,w_x,g_y,hn',hkl,hfl,c1,c2,l_e1] <;> rfl) (by simp) ?_
    rintro k2 hk2
    by_cases h2 : k2 < x.fgns.items.length
    · have l_p : ((k2 : Int) < ((x.fgns.items).length : Int)) = True := by simp; omega
      obtain ⟨p, g_p⟩ : ∃ a_, (x.fgns.items)[k2]? = some a_ := ⟨_, List.getElem?_eq_getElem (by assumption)⟩
      have w_p := wrap_nat k2 (by omega)
      obtain ⟨q, g_q, hp1, hp2, hp3⟩ := alike_get hfs g_p
      have c3 := ints62 (G := GK) p.cols q.cols
      rw [← hp1, eqI_refl] at c3
      have e2 := hp2.symm
      have e3 := hp3.symm
      repeat (first|(with_reducible first|refine q1 ?_|refine q2 ?_|refine q3 ?_|refine q4 ?_|refine q5 ?_|refine q6 ?_|refine q7 ?_|refine q8 ?_|refine q9 ?_|refine q10 ?_|refine q11 ?_|refine q12 (by decide) ?_)|((first|with_reducible refine q13 ?_|((with_reducible refine q14 ?_ ?_);focus exact rfl));intro K hK;simp +decide only[go_sem,reduceAdd,reduceMul,reduceSub,hl,bneI,l_x,g_x,w_x,g_y,hn',hkl,hfl,c1,c2,l_e1,l_p,g_p,w_p,g_q,e2,e3,c3];with_reducible refine hK _ ?_;clear hK K)|(with_reducible refine q15 ?_;intro K J hK hJ;simp +decide only[go_sem,reduceAdd,reduceMul,reduceSub,hl,bneI,l_x,g_x,w_x,g_y,hn',hkl,hfl,c1,c2,l_e1,l_p,g_p,w_p,g_q,e2,e3,c3];(with_reducible first|refine hK ?_|refine hJ ?_);clear hK hJ K J))
      exact ⟨(k2 + 1), by simp +decide only[go_sem,reduceAdd,reduceMul,reduceSub,hl,bneI,l_x,g_x,w_x,g_y,hn',hkl,hfl,c1,c2,l_e1,l_p,g_p,w_p] <;> rfl, by omega, by omega⟩
    have l_e2 : ((k2 : Int) < ((x.fgns.items).length : Int)) = False := by simp; omega
    repeat (first|(with_reducible first|refine q1 ?_|refine q2 ?_|refine q3 ?_|refine q4 ?_|refine q5 ?_|refine q6 ?_|refine q7 ?_|refine q8 ?_|refine q9 ?_|refine q10 ?_|refine q11 ?_|refine q12 (by decide) ?_)|((first|with_reducible refine q13 ?_|((with_reducible refine q14 ?_ ?_);focus exact rfl));intro K hK;simp +decide only[go_sem,reduceAdd,reduceMul,reduceSub,hl,bneI,l_x,g_x,w_x,g_y,hn',hkl,hfl,c1,c2,l_e1,l_e2];with_reducible refine hK _ ?_;clear hK K)|(with_reducible refine q15 ?_;intro K J hK hJ;simp +decide only[go_sem,reduceAdd,reduceMul,reduceSub,hl,bneI,l_x,g_x,w_x,g_y,hn',hkl,hfl,c1,c2,l_e1,l_e2];(with_reducible first|refine hK ?_|refine hJ ?_);clear hK hJ K J))
    exact ⟨(k + 1), by simp +decide only[go_sem,reduceAdd,reduceMul,reduceSub,hl,bneI,l_x,g_x,w_x,g_y,hn',hkl,hfl,c1,c2,l_e1,l_e2] <;> rfl, by omega, by omega⟩
  · have l_x : ((k : Int) < ((a.items).length : Int)) = False := by simp; omega
    repeat (first|(with_reducible first|refine q1 ?_|refine q2 ?_|refine q3 ?_|refine q4 ?_|refine q5 ?_|refine q6 ?_|refine q7 ?_|refine q8 ?_|refine q9 ?_|refine q10 ?_|refine q11 ?_|refine q12 (by decide) ?_)|((first|with_reducible refine q13 ?_|((with_reducible refine q14 ?_ ?_);focus exact rfl));intro K hK;simp +decide only[go_sem,reduceAdd,reduceMul,reduceSub,hl,bneI,l_x];with_reducible refine hK _ ?_;clear hK K)|(with_reducible refine q15 ?_;intro K J hK hJ;simp +decide only[go_sem,reduceAdd,reduceMul,reduceSub,hl,bneI,l_x];(with_reducible first|refine hK ?_|refine hJ ?_);clear hK hJ K J))
    simp +decide only[go_sem,reduceAdd,reduceMul,reduceSub,hl,bneI,l_x]
end Go.Eng
