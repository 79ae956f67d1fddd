/- A part of the proof: see the last text. -/
import Derived.Test.YtcfmjomniaopcaaDoorR2SmallT
import Derived.Test.YtcfmjomniaopcaaDoorR2Awake
set_option linter.unusedSimpArgs false
set_option linter.unusedVariables false
namespace Go.Eng
open Go Go.Proofs
variable {G : Nat → Option (List D)}
/-- The first place from i on. -/
def fnd {α : Type} (p : α → Bool) : Nat → List α → Option Nat
  | _, [] => none
  | i, a :: r => match p a with | true => some i | false => fnd p (i + 1) r
def fndI : Option Nat → D
  | some k => .int .i64 (k : Int)
  | none => .int .i64 (-1)
def fndT : Option Nat → D
  | some k => .tuple [.int .i64 (k : Int), .bool true]
  | none => .tuple [.int .i64 0, .bool false]
theorem dropc {α : Type} {l : List α} {k : Nat} {a : α} (h : l[k]? = some a) : l.drop k = a :: l.drop (k + 1) := by
  obtain ⟨hk, rfl⟩ := List.getElem?_eq_some_iff.1 h
  exact List.drop_eq_getElem_cons hk
set_option maxRecDepth 20000 in
set_option maxHeartbeats 8000000 in
theorem f64c (t : Tbl) (nm : Str) : callR (XG G) TT 64 ⟨[[.str nm]], []⟩ [encTbl t, .ptr 0 0] = some (.bool (t.name == nm), ⟨[[.str nm]], []⟩) := by
  refine callR_val T64 rfl ?_
  unfold Tryd.f64
  simp only [Option.getD_some]
  simp (decide:=true) only[go_sem,Nat.reduceAdd,Nat.reduceMul,Nat.reduceSub]
  repeat (first|(with_reducible first|refine q1 ?_|refine q2 ?_|refine q3 ?_|refine q4 ?_|refine q5 ?_|refine q6 ?_|refine q7 ?_|refine q8 ?_|refine q9 ?_|refine q10 ?_|refine q11 ?_|refine q12 (by decide) ?_)|((first|with_reducible refine q13 ?_|((with_reducible refine q14 ?_ ?_);focus exact rfl));intro K hK;simp (decide:=true) only[go_sem,Nat.reduceAdd,Nat.reduceMul,Nat.reduceSub];with_reducible refine hK _ ?_;clear hK K)|(with_reducible refine q15 ?_;intro K J hK hJ;simp (decide:=true) only[go_sem,Nat.reduceAdd,Nat.reduceMul,Nat.reduceSub];(with_reducible first|refine hK ?_|refine hJ ?_);clear hK hJ K J))
  simp (decide:=true) only[go_sem,Nat.reduceAdd,Nat.reduceMul,Nat.reduceSub]
set_option maxRecDepth 20000 in
set_option maxHeartbeats 8000000 in
theorem f63c (s : Sl Tbl) (nm : Str) : callR (XG G) TT 63 ⟨[[.str nm]], []⟩ [sl 5 encTbl s, .func 64 [.ptr 0 0]] = some (fndI (fnd (fun t : Tbl => t.name == nm) 0 s.items), ⟨[[.str nm]], []⟩) := by
  refine callR_val T63 rfl ?_
  unfold Tryd.f63
  simp only [Option.getD_some]
  have hlt := s.lt
  simp (decide:=true) only[go_sem,Nat.reduceAdd,Nat.reduceMul,Nat.reduceSub]
  repeat (first|(with_reducible first|refine q1 ?_|refine q2 ?_|refine q3 ?_|refine q4 ?_|refine q5 ?_|refine q6 ?_|refine q7 ?_|refine q8 ?_|refine q9 ?_|refine q10 ?_|refine q11 ?_|refine q12 (by decide) ?_)|((first|with_reducible refine q13 ?_|((with_reducible refine q14 ?_ ?_);focus exact rfl));intro K hK;simp (decide:=true) only[go_sem,Nat.reduceAdd,Nat.reduceMul,Nat.reduceSub];with_reducible refine hK _ ?_;clear hK K)|(with_reducible refine q15 ?_;intro K J hK hJ;simp (decide:=true) only[go_sem,Nat.reduceAdd,Nat.reduceMul,Nat.reduceSub];(with_reducible first|refine hK ?_|refine hJ ?_);clear hK hJ K J))
  refine wpI_loop (T := Nat) [0, 1, 7, 8] (fun k => ⟨slL [(0, sl 5 encTbl s), (1, .func 64 [.ptr 0 0]), (7, .int .i64 (s.items.length : Int)), (8, .int .i64 (k : Int))], opL [], opL [], ⟨[[.str nm]], []⟩⟩) (fun k => k ≤ s.items.length ∧ fnd (fun t : Tbl => t.name == nm) k (s.items.drop k) = fnd (fun t : Tbl => t.name == nm) 0 s.items) (fun k => s.items.length - k) 0 rfl (by simp (decide:=true) only[go_sem,Nat.reduceAdd,Nat.reduceMul,Nat.reduceSub] <;> rfl) (by simp) ?_
  rintro k ⟨hk, hP⟩
  by_cases h : k < s.items.length
  · have l_x : ((k : Int) < ((s.items).length : Int)) = True := by simp; omega
    obtain ⟨x, g_x⟩ : ∃ a_, (s.items)[k]? = some a_ := ⟨_, List.getElem?_eq_getElem (by assumption)⟩
    have w_x := wrap_nat k (by omega)
    rw [dropc g_x, fnd] at hP
    have hc := f64c (G := G) x nm
    simp only [encTbl_eq] at hc
    cases c : (x.name == nm)
    · rw [c] at hc hP
      repeat (first|(with_reducible first|refine q1 ?_|refine q2 ?_|refine q3 ?_|refine q4 ?_|refine q5 ?_|refine q6 ?_|refine q7 ?_|refine q8 ?_|refine q9 ?_|refine q10 ?_|refine q11 ?_|refine q12 (by decide) ?_)|((first|with_reducible refine q13 ?_|((with_reducible refine q14 ?_ ?_);focus exact rfl));intro K hK;simp (decide:=true) only[go_sem,Nat.reduceAdd,Nat.reduceMul,Nat.reduceSub,l_x,g_x,w_x,l_x,g_x,w_x,hc];with_reducible refine hK _ ?_;clear hK K)|(with_reducible refine q15 ?_;intro K J hK hJ;simp (decide:=true) only[go_sem,Nat.reduceAdd,Nat.reduceMul,Nat.reduceSub,l_x,g_x,w_x,l_x,g_x,w_x,hc];(with_reducible first|refine hK ?_|refine hJ ?_);clear hK hJ K J))
      exact ⟨k + 1, by simp (decide:=true) only[go_sem,Nat.reduceAdd,Nat.reduceMul,Nat.reduceSub,l_x,g_x,w_x] <;> rfl, ⟨by omega, hP⟩, by omega⟩
    · rw [c] at hc hP
      repeat (first|(with_reducible first|refine q1 ?_|refine q2 ?_|refine q3 ?_|refine q4 ?_|refine q5 ?_|refine q6 ?_|refine q7 ?_|refine q8 ?_|refine q9 ?_|refine q10 ?_|refine q11 ?_|refine q12 (by decide) ?_)|((first|with_reducible refine q13 ?_|((with_reducible refine q14 ?_ ?_);focus exact rfl));intro K hK;simp (decide:=true) only[go_sem,Nat.reduceAdd,Nat.reduceMul,Nat.reduceSub,l_x,g_x,w_x,l_x,g_x,w_x,hc];with_reducible refine hK _ ?_;clear hK K)|(with_reducible refine q15 ?_;intro K J hK hJ;simp (decide:=true) only[go_sem,Nat.reduceAdd,Nat.reduceMul,Nat.reduceSub,l_x,g_x,w_x,l_x,g_x,w_x,hc];(with_reducible first|refine hK ?_|refine hJ ?_);clear hK hJ K J))
      simp (decide:=true) only[go_sem,Nat.reduceAdd,Nat.reduceMul,Nat.reduceSub,l_x,g_x,w_x]
      rw [← hP]
      exact ⟨rfl, trivial⟩
  · have l_x : ((k : Int) < ((s.items).length : Int)) = False := by simp; omega
    rw [List.drop_eq_nil_of_le (by omega), fnd] at hP
    repeat (first|(with_reducible first|refine q1 ?_|refine q2 ?_|refine q3 ?_|refine q4 ?_|refine q5 ?_|refine q6 ?_|refine q7 ?_|refine q8 ?_|refine q9 ?_|refine q10 ?_|refine q11 ?_|refine q12 (by decide) ?_)|((first|with_reducible refine q13 ?_|((with_reducible refine q14 ?_ ?_);focus exact rfl));intro K hK;simp (decide:=true) only[go_sem,Nat.reduceAdd,Nat.reduceMul,Nat.reduceSub,l_x,l_x];with_reducible refine hK _ ?_;clear hK K)|(with_reducible refine q15 ?_;intro K J hK hJ;simp (decide:=true) only[go_sem,Nat.reduceAdd,Nat.reduceMul,Nat.reduceSub,l_x,l_x];(with_reducible first|refine hK ?_|refine hJ ?_);clear hK hJ K J))
    simp (decide:=true) only[go_sem,Nat.reduceAdd,Nat.reduceMul,Nat.reduceSub,l_x]
    rw [← hP]
    exact ⟨rfl, trivial⟩
set_option maxRecDepth 20000 in
set_option maxHeartbeats 8000000 in
theorem find25 (s : Sl Tbl) (nm : Str) : callP (XG G) TT 25 [sl 5 encTbl s, .str nm] = some (fndT (fnd (fun t : Tbl => t.name == nm) 0 s.items)) := by
  refine callP_val T25 rfl (by simp only [go_sem]) ?_
  unfold Tryd.f25
  simp only [Option.getD_some]
  have hc := f63c (G := G) s nm
  simp (decide:=true) only[go_sem,Nat.reduceAdd,Nat.reduceMul,Nat.reduceSub]
  repeat (first|(with_reducible first|refine q1 ?_|refine q2 ?_|refine q3 ?_|refine q4 ?_|refine q5 ?_|refine q6 ?_|refine q7 ?_|refine q8 ?_|refine q9 ?_|refine q10 ?_|refine q11 ?_|refine q12 (by decide) ?_)|((first|with_reducible refine q13 ?_|((with_reducible refine q14 ?_ ?_);focus exact rfl));intro K hK;simp (decide:=true) only[go_sem,Nat.reduceAdd,Nat.reduceMul,Nat.reduceSub];with_reducible refine hK _ ?_;clear hK K)|(with_reducible refine q15 ?_;intro K J hK hJ;simp (decide:=true) only[go_sem,Nat.reduceAdd,Nat.reduceMul,Nat.reduceSub];(with_reducible first|refine hK ?_|refine hJ ?_);clear hK hJ K J))
  repeat (first|(with_reducible first|refine q1 ?_|refine q2 ?_|refine q3 ?_|refine q4 ?_|refine q5 ?_|refine q6 ?_|refine q7 ?_|refine q8 ?_|refine q9 ?_|refine q10 ?_|refine q11 ?_|refine q12 (by decide) ?_)|((first|with_reducible refine q13 ?_|((with_reducible refine q14 ?_ ?_);focus exact rfl));intro K hK;simp (decide:=true) only[go_sem,Nat.reduceAdd,Nat.reduceMul,Nat.reduceSub,hc];with_reducible refine hK _ ?_;clear hK K)|(with_reducible refine q15 ?_;intro K J hK hJ;simp (decide:=true) only[go_sem,Nat.reduceAdd,Nat.reduceMul,Nat.reduceSub,hc];(with_reducible first|refine hK ?_|refine hJ ?_);clear hK hJ K J))
  generalize fnd (fun t : Tbl => t.name == nm) 0 s.items = o
  cases o with
  | none =>
    simp only [fndI, fndT]
    repeat (first|(with_reducible first|refine q1 ?_|refine q2 ?_|refine q3 ?_|refine q4 ?_|refine q5 ?_|refine q6 ?_|refine q7 ?_|refine q8 ?_|refine q9 ?_|refine q10 ?_|refine q11 ?_|refine q12 (by decide) ?_)|((first|with_reducible refine q13 ?_|((with_reducible refine q14 ?_ ?_);focus exact rfl));intro K hK;simp (decide:=true) only[go_sem,Nat.reduceAdd,Nat.reduceMul,Nat.reduceSub];with_reducible refine hK _ ?_;clear hK K)|(with_reducible refine q15 ?_;intro K J hK hJ;simp (decide:=true) only[go_sem,Nat.reduceAdd,Nat.reduceMul,Nat.reduceSub];(with_reducible first|refine hK ?_|refine hJ ?_);clear hK hJ K J))
    simp (decide:=true) only[go_sem,Nat.reduceAdd,Nat.reduceMul,Nat.reduceSub]
  | some k =>
    simp only [fndI, fndT]
    by_cases h : k = 0
    · subst h
      repeat (first|(with_reducible first|refine q1 ?_|refine q2 ?_|refine q3 ?_|refine q4 ?_|refine q5 ?_|refine q6 ?_|refine q7 ?_|refine q8 ?_|refine q9 ?_|refine q10 ?_|refine q11 ?_|refine q12 (by decide) ?_)|((first|with_reducible refine q13 ?_|((with_reducible refine q14 ?_ ?_);focus exact rfl));intro K hK;simp (decide:=true) only[go_sem,Nat.reduceAdd,Nat.reduceMul,Nat.reduceSub];with_reducible refine hK _ ?_;clear hK K)|(with_reducible refine q15 ?_;intro K J hK hJ;simp (decide:=true) only[go_sem,Nat.reduceAdd,Nat.reduceMul,Nat.reduceSub];(with_reducible first|refine hK ?_|refine hJ ?_);clear hK hJ K J))
      simp (decide:=true) only[go_sem,Nat.reduceAdd,Nat.reduceMul,Nat.reduceSub]
    · have h1 : ((0 : Int) > (k : Int)) = False := by simp
      have h2 : (0 : Int) ≤ (k : Int) := by omega
      repeat (first|(with_reducible first|refine q1 ?_|refine q2 ?_|refine q3 ?_|refine q4 ?_|refine q5 ?_|refine q6 ?_|refine q7 ?_|refine q8 ?_|refine q9 ?_|refine q10 ?_|refine q11 ?_|refine q12 (by decide) ?_)|((first|with_reducible refine q13 ?_|((with_reducible refine q14 ?_ ?_);focus exact rfl));intro K hK;simp (decide:=true) only[go_sem,Nat.reduceAdd,Nat.reduceMul,Nat.reduceSub,h1,h2];with_reducible refine hK _ ?_;clear hK K)|(with_reducible refine q15 ?_;intro K J hK hJ;simp (decide:=true) only[go_sem,Nat.reduceAdd,Nat.reduceMul,Nat.reduceSub,h1,h2];(with_reducible first|refine hK ?_|refine hJ ?_);clear hK hJ K J))
      simp (decide:=true) only[go_sem,Nat.reduceAdd,Nat.reduceMul,Nat.reduceSub]
set_option maxRecDepth 20000 in
set_option maxHeartbeats 8000000 in
theorem find26 (s : Sl Tbl) (nm : Str) : callP (XG G) TT 26 [sl 5 encTbl s, .str nm] = some (fndT (fnd (fun t : Tbl => t.name == nm) 0 s.items)) := by
  refine callP_val T26 rfl (by simp only [go_sem]) ?_
  unfold Tryd.f26
  simp only [Option.getD_some]
  have hlt := s.lt
  simp (decide:=true) only[go_sem,Nat.reduceAdd,Nat.reduceMul,Nat.reduceSub]
  repeat (first|(with_reducible first|refine q1 ?_|refine q2 ?_|refine q3 ?_|refine q4 ?_|refine q5 ?_|refine q6 ?_|refine q7 ?_|refine q8 ?_|refine q9 ?_|refine q10 ?_|refine q11 ?_|refine q12 (by decide) ?_)|((first|with_reducible refine q13 ?_|((with_reducible refine q14 ?_ ?_);focus exact rfl));intro K hK;simp (decide:=true) only[go_sem,Nat.reduceAdd,Nat.reduceMul,Nat.reduceSub];with_reducible refine hK _ ?_;clear hK K)|(with_reducible refine q15 ?_;intro K J hK hJ;simp (decide:=true) only[go_sem,Nat.reduceAdd,Nat.reduceMul,Nat.reduceSub];(with_reducible first|refine hK ?_|refine hJ ?_);clear hK hJ K J))
  refine wpI_loop (T := Nat) [0, 1, 6] (fun k => ⟨slL [(0, sl 5 encTbl s), (1, .str nm), (6, .int .i64 (k : Int))], opL [], opL [], ⟨[], []⟩⟩) (fun k => k ≤ s.items.length ∧ fnd (fun t : Tbl => t.name == nm) k (s.items.drop k) = fnd (fun t : Tbl => t.name == nm) 0 s.items) (fun k => s.items.length - k) 0 rfl (by simp (decide:=true) only[go_sem,Nat.reduceAdd,Nat.reduceMul,Nat.reduceSub] <;> rfl) (by simp) ?_
  rintro k ⟨hk, hP⟩
  by_cases h : k < s.items.length
  · have l_x : ((k : Int) < ((s.items).length : Int)) = True := by simp; omega
    obtain ⟨x, g_x⟩ : ∃ a_, (s.items)[k]? = some a_ := ⟨_, List.getElem?_eq_getElem (by assumption)⟩
    have w_x := wrap_nat k (by omega)
    rw [dropc g_x, fnd] at hP
    cases c : (x.name == nm)
    · rw [c] at hP
      repeat (first|(with_reducible first|refine q1 ?_|refine q2 ?_|refine q3 ?_|refine q4 ?_|refine q5 ?_|refine q6 ?_|refine q7 ?_|refine q8 ?_|refine q9 ?_|refine q10 ?_|refine q11 ?_|refine q12 (by decide) ?_)|((first|with_reducible refine q13 ?_|((with_reducible refine q14 ?_ ?_);focus exact rfl));intro K hK;simp (decide:=true) only[go_sem,Nat.reduceAdd,Nat.reduceMul,Nat.reduceSub,l_x,g_x,w_x,l_x,g_x,w_x,c];with_reducible refine hK _ ?_;clear hK K)|(with_reducible refine q15 ?_;intro K J hK hJ;simp (decide:=true) only[go_sem,Nat.reduceAdd,Nat.reduceMul,Nat.reduceSub,l_x,g_x,w_x,l_x,g_x,w_x,c];(with_reducible first|refine hK ?_|refine hJ ?_);clear hK hJ K J))
      exact ⟨k + 1, by simp (decide:=true) only[go_sem,Nat.reduceAdd,Nat.reduceMul,Nat.reduceSub,l_x,g_x,w_x] <;> rfl, ⟨by omega, hP⟩, by omega⟩
    · rw [c] at hP
      repeat (first|(with_reducible first|refine q1 ?_|refine q2 ?_|refine q3 ?_|refine q4 ?_|refine q5 ?_|refine q6 ?_|refine q7 ?_|refine q8 ?_|refine q9 ?_|refine q10 ?_|refine q11 ?_|refine q12 (by decide) ?_)|((first|with_reducible refine q13 ?_|((with_reducible refine q14 ?_ ?_);focus exact rfl));intro K hK;simp (decide:=true) only[go_sem,Nat.reduceAdd,Nat.reduceMul,Nat.reduceSub,l_x,g_x,w_x,l_x,g_x,w_x,c];with_reducible refine hK _ ?_;clear hK K)|(with_reducible refine q15 ?_;intro K J hK hJ;simp (decide:=true) only[go_sem,Nat.reduceAdd,Nat.reduceMul,Nat.reduceSub,l_x,g_x,w_x,l_x,g_x,w_x,c];(with_reducible first|refine hK ?_|refine hJ ?_);clear hK hJ K J))
      simp (decide:=true) only[go_sem,Nat.reduceAdd,Nat.reduceMul,Nat.reduceSub,l_x,g_x,w_x]
      rw [← hP]
      rfl
  · have l_x : ((k : Int) < ((s.items).length : Int)) = False := by simp; omega
    rw [List.drop_eq_nil_of_le (by omega), fnd] at hP
    repeat (first|(with_reducible first|refine q1 ?_|refine q2 ?_|refine q3 ?_|refine q4 ?_|refine q5 ?_|refine q6 ?_|refine q7 ?_|refine q8 ?_|refine q9 ?_|refine q10 ?_|refine q11 ?_|refine q12 (by decide) ?_)|((first|with_reducible refine q13 ?_|((with_reducible refine q14 ?_ ?_);focus exact rfl));intro K hK;simp (decide:=true) only[go_sem,Nat.reduceAdd,Nat.reduceMul,Nat.reduceSub,l_x,l_x];with_reducible refine hK _ ?_;clear hK K)|(with_reducible refine q15 ?_;intro K J hK hJ;simp (decide:=true) only[go_sem,Nat.reduceAdd,Nat.reduceMul,Nat.reduceSub,l_x,l_x];(with_reducible first|refine hK ?_|refine hJ ?_);clear hK hJ K J))
    simp (decide:=true) only[go_sem,Nat.reduceAdd,Nat.reduceMul,Nat.reduceSub,l_x]
    rw [← hP]
    rfl
set_option maxRecDepth 20000 in
set_option maxHeartbeats 8000000 in
theorem f66c (t : Col) (nm : Str) : callR (XG G) TT 66 ⟨[[.str nm]], []⟩ [encCol t, .ptr 0 0] = some (.bool (t.name == nm), ⟨[[.str nm]], []⟩) := by
  refine callR_val T66 rfl ?_
  unfold Tryd.f66
  simp only [Option.getD_some]
  simp (decide:=true) only[go_sem,Nat.reduceAdd,Nat.reduceMul,Nat.reduceSub]
  repeat (first|(with_reducible first|refine q1 ?_|refine q2 ?_|refine q3 ?_|refine q4 ?_|refine q5 ?_|refine q6 ?_|refine q7 ?_|refine q8 ?_|refine q9 ?_|refine q10 ?_|refine q11 ?_|refine q12 (by decide) ?_)|((first|with_reducible refine q13 ?_|((with_reducible refine q14 ?_ ?_);focus exact rfl));intro K hK;simp (decide:=true) only[go_sem,Nat.reduceAdd,Nat.reduceMul,Nat.reduceSub];with_reducible refine hK _ ?_;clear hK K)|(with_reducible refine q15 ?_;intro K J hK hJ;simp (decide:=true) only[go_sem,Nat.reduceAdd,Nat.reduceMul,Nat.reduceSub];(with_reducible first|refine hK ?_|refine hJ ?_);clear hK hJ K J))
  simp (decide:=true) only[go_sem,Nat.reduceAdd,Nat.reduceMul,Nat.reduceSub]
set_option maxRecDepth 20000 in
set_option maxHeartbeats 8000000 in
theorem f65c (s : Sl Col) (nm : Str) : callR (XG G) TT 65 ⟨[[.str nm]], []⟩ [sl 6 encCol s, .func 66 [.ptr 0 0]] = some (fndI (fnd (fun t : Col => t.name == nm) 0 s.items), ⟨[[.str nm]], []⟩) := by
  refine callR_val T65 rfl ?_
  unfold Tryd.f65
  simp only [Option.getD_some]
  have hlt := s.lt
  simp (decide:=true) only[go_sem,Nat.reduceAdd,Nat.reduceMul,Nat.reduceSub]
  repeat (first|(with_reducible first|refine q1 ?_|refine q2 ?_|refine q3 ?_|refine q4 ?_|refine q5 ?_|refine q6 ?_|refine q7 ?_|refine q8 ?_|refine q9 ?_|refine q10 ?_|refine q11 ?_|refine q12 (by decide) ?_)|((first|with_reducible refine q13 ?_|((with_reducible refine q14 ?_ ?_);focus exact rfl));intro K hK;simp (decide:=true) only[go_sem,Nat.reduceAdd,Nat.reduceMul,Nat.reduceSub];with_reducible refine hK _ ?_;clear hK K)|(with_reducible refine q15 ?_;intro K J hK hJ;simp (decide:=true) only[go_sem,Nat.reduceAdd,Nat.reduceMul,Nat.reduceSub];(with_reducible first|refine hK ?_|refine hJ ?_);clear hK hJ K J))
  refine wpI_loop (T := Nat) [0, 1, 7, 8] (fun k => ⟨slL [(0, sl 6 encCol s), (1, .func 66 [.ptr 0 0]), (7, .int .i64 (s.items.length : Int)), (8, .int .i64 (k : Int))], opL [], opL [], ⟨[[.str nm]], []⟩⟩) (fun k => k ≤ s.items.length ∧ fnd (fun t : Col => t.name == nm) k (s.items.drop k) = fnd (fun t : Col => t.name == nm) 0 s.items) (fun k => s.items.length - k) 0 rfl (by simp (decide:=true) only[go_sem,Nat.reduceAdd,Nat.reduceMul,Nat.reduceSub] <;> rfl) (by simp) ?_
  rintro k ⟨hk, hP⟩
  by_cases h : k < s.items.length
  · have l_x : ((k : Int) < ((s.items).length : Int)) = True := by simp; omega
    obtain ⟨x, g_x⟩ : ∃ a_, (s.items)[k]? = some a_ := ⟨_, List.getElem?_eq_getElem (by assumption)⟩
    have w_x := wrap_nat k (by omega)
    rw [dropc g_x, fnd] at hP
    have hc := f66c (G := G) x nm
    simp only [encCol_eq] at hc
    cases c : (x.name == nm)
    · rw [c] at hc hP
      repeat (first|(with_reducible first|refine q1 ?_|refine q2 ?_|refine q3 ?_|refine q4 ?_|refine q5 ?_|refine q6 ?_|refine q7 ?_|refine q8 ?_|refine q9 ?_|refine q10 ?_|refine q11 ?_|refine q12 (by decide) ?_)|((first|with_reducible refine q13 ?_|((with_reducible refine q14 ?_ ?_);focus exact rfl));intro K hK;simp (decide:=true) only[go_sem,Nat.reduceAdd,Nat.reduceMul,Nat.reduceSub,l_x,g_x,w_x,l_x,g_x,w_x,hc];with_reducible refine hK _ ?_;clear hK K)|(with_reducible refine q15 ?_;intro K J hK hJ;simp (decide:=true) only[go_sem,Nat.reduceAdd,Nat.reduceMul,Nat.reduceSub,l_x,g_x,w_x,l_x,g_x,w_x,hc];(with_reducible first|refine hK ?_|refine hJ ?_);clear hK hJ K J))
      exact ⟨k + 1, by simp (decide:=true) only[go_sem,Nat.reduceAdd,Nat.reduceMul,Nat.reduceSub,l_x,g_x,w_x] <;> rfl, ⟨by omega, hP⟩, by omega⟩
    · rw [c] at hc hP
      repeat (first|(with_reducible first|refine q1 ?_|refine q2 ?_|refine q3 ?_|refine q4 ?_|refine q5 ?_|refine q6 ?_|refine q7 ?_|refine q8 ?_|refine q9 ?_|refine q10 ?_|refine q11 ?_|refine q12 (by decide) ?_)|((first|with_reducible refine q13 ?_|((with_reducible refine q14 ?_ ?_);focus exact rfl));intro K hK;simp (decide:=true) only[go_sem,Nat.reduceAdd,Nat.reduceMul,Nat.reduceSub,l_x,g_x,w_x,l_x,g_x,w_x,hc];with_reducible refine hK _ ?_;clear hK K)|(with_reducible refine q15 ?_;intro K J hK hJ;simp (decide:=true) only[go_sem,Nat.reduceAdd,Nat.reduceMul,Nat.reduceSub,l_x,g_x,w_x,l_x,g_x,w_x,hc];(with_reducible first|refine hK ?_|refine hJ ?_);clear hK hJ K J))
      simp (decide:=true) only[go_sem,Nat.reduceAdd,Nat.reduceMul,Nat.reduceSub,l_x,g_x,w_x]
      rw [← hP]
      exact ⟨rfl, trivial⟩
  · have l_x : ((k : Int) < ((s.items).length : Int)) = False := by simp; omega
    rw [List.drop_eq_nil_of_le (by omega), fnd] at hP
    repeat (first|(with_reducible first|refine q1 ?_|refine q2 ?_|refine q3 ?_|refine q4 ?_|refine q5 ?_|refine q6 ?_|refine q7 ?_|refine q8 ?_|refine q9 ?_|refine q10 ?_|refine q11 ?_|refine q12 (by decide) ?_)|((first|with_reducible refine q13 ?_|((with_reducible refine q14 ?_ ?_);focus exact rfl));intro K hK;simp (decide:=true) only[go_sem,Nat.reduceAdd,Nat.reduceMul,Nat.reduceSub,l_x,l_x];with_reducible refine hK _ ?_;clear hK K)|(with_reducible refine q15 ?_;intro K J hK hJ;simp (decide:=true) only[go_sem,Nat.reduceAdd,Nat.reduceMul,Nat.reduceSub,l_x,l_x];(with_reducible first|refine hK ?_|refine hJ ?_);clear hK hJ K J))
    simp (decide:=true) only[go_sem,Nat.reduceAdd,Nat.reduceMul,Nat.reduceSub,l_x]
    rw [← hP]
    exact ⟨rfl, trivial⟩
set_option maxRecDepth 20000 in
set_option maxHeartbeats 8000000 in
theorem col27 (t : Tbl) (nm : Str) : callP (XG G) TT 27 [encTbl t, .str nm] = some (fndT (fnd (fun t : Col => t.name == nm) 0 t.cols.items)) := by
  refine callP_val T27 rfl (by simp only [go_sem]) ?_
  unfold Tryd.f27
  simp only [Option.getD_some]
  have hc := f65c (G := G) t.cols nm
  simp (decide:=true) only[go_sem,Nat.reduceAdd,Nat.reduceMul,Nat.reduceSub]
  repeat (first|(with_reducible first|refine q1 ?_|refine q2 ?_|refine q3 ?_|refine q4 ?_|refine q5 ?_|refine q6 ?_|refine q7 ?_|refine q8 ?_|refine q9 ?_|refine q10 ?_|refine q11 ?_|refine q12 (by decide) ?_)|((first|with_reducible refine q13 ?_|((with_reducible refine q14 ?_ ?_);focus exact rfl));intro K hK;simp (decide:=true) only[go_sem,Nat.reduceAdd,Nat.reduceMul,Nat.reduceSub];with_reducible refine hK _ ?_;clear hK K)|(with_reducible refine q15 ?_;intro K J hK hJ;simp (decide:=true) only[go_sem,Nat.reduceAdd,Nat.reduceMul,Nat.reduceSub];(with_reducible first|refine hK ?_|refine hJ ?_);clear hK hJ K J))
  repeat (first|(with_reducible first|refine q1 ?_|refine q2 ?_|refine q3 ?_|refine q4 ?_|refine q5 ?_|refine q6 ?_|refine q7 ?_|refine q8 ?_|refine q9 ?_|refine q10 ?_|refine q11 ?_|refine q12 (by decide) ?_)|((first|with_reducible refine q13 ?_|((with_reducible refine q14 ?_ ?_);focus exact rfl));intro K hK;simp (decide:=true) only[go_sem,Nat.reduceAdd,Nat.reduceMul,Nat.reduceSub,hc];with_reducible refine hK _ ?_;clear hK K)|(with_reducible refine q15 ?_;intro K J hK hJ;simp (decide:=true) only[go_sem,Nat.reduceAdd,Nat.reduceMul,Nat.reduceSub,hc];(with_reducible first|refine hK ?_|refine hJ ?_);clear hK hJ K J))
  generalize fnd (fun t : Col => t.name == nm) 0 t.cols.items = o
  cases o with
  | none =>
    simp only [fndI, fndT]
    repeat (first|(with_reducible first|refine q1 ?_|refine q2 ?_|refine q3 ?_|refine q4 ?_|refine q5 ?_|refine q6 ?_|refine q7 ?_|refine q8 ?_|refine q9 ?_|refine q10 ?_|refine q11 ?_|refine q12 (by decide) ?_)|((first|with_reducible refine q13 ?_|((with_reducible refine q14 ?_ ?_);focus exact rfl));intro K hK;simp (decide:=true) only[go_sem,Nat.reduceAdd,Nat.reduceMul,Nat.reduceSub];with_reducible refine hK _ ?_;clear hK K)|(with_reducible refine q15 ?_;intro K J hK hJ;simp (decide:=true) only[go_sem,Nat.reduceAdd,Nat.reduceMul,Nat.reduceSub];(with_reducible first|refine hK ?_|refine hJ ?_);clear hK hJ K J))
    simp (decide:=true) only[go_sem,Nat.reduceAdd,Nat.reduceMul,Nat.reduceSub]
  | some k =>
    simp only [fndI, fndT]
    by_cases h : k = 0
    · subst h
      repeat (first|(with_reducible first|refine q1 ?_|refine q2 ?_|refine q3 ?_|refine q4 ?_|refine q5 ?_|refine q6 ?_|refine q7 ?_|refine q8 ?_|refine q9 ?_|refine q10 ?_|refine q11 ?_|refine q12 (by decide) ?_)|((first|with_reducible refine q13 ?_|((with_reducible refine q14 ?_ ?_);focus exact rfl));intro K hK;simp (decide:=true) only[go_sem,Nat.reduceAdd,Nat.reduceMul,Nat.reduceSub];with_reducible refine hK _ ?_;clear hK K)|(with_reducible refine q15 ?_;intro K J hK hJ;simp (decide:=true) only[go_sem,Nat.reduceAdd,Nat.reduceMul,Nat.reduceSub];(with_reducible first|refine hK ?_|refine hJ ?_);clear hK hJ K J))
      simp (decide:=true) only[go_sem,Nat.reduceAdd,Nat.reduceMul,Nat.reduceSub]
    · have h1 : ((0 : Int) > (k : Int)) = False := by simp
      have h2 : (0 : Int) ≤ (k : Int) := by omega
      repeat (first|(with_reducible first|refine q1 ?_|refine q2 ?_|refine q3 ?_|refine q4 ?_|refine q5 ?_|refine q6 ?_|refine q7 ?_|refine q8 ?_|refine q9 ?_|refine q10 ?_|refine q11 ?_|refine q12 (by decide) ?_)|((first|with_reducible refine q13 ?_|((with_reducible refine q14 ?_ ?_);focus exact rfl));intro K hK;simp (decide:=true) only[go_sem,Nat.reduceAdd,Nat.reduceMul,Nat.reduceSub,h1,h2];with_reducible refine hK _ ?_;clear hK K)|(with_reducible refine q15 ?_;intro K J hK hJ;simp (decide:=true) only[go_sem,Nat.reduceAdd,Nat.reduceMul,Nat.reduceSub,h1,h2];(with_reducible first|refine hK ?_|refine hJ ?_);clear hK hJ K J))
      simp (decide:=true) only[go_sem,Nat.reduceAdd,Nat.reduceMul,Nat.reduceSub]
set_option maxRecDepth 20000 in
set_option maxHeartbeats 8000000 in
theorem col28 (t : Tbl) (nm : Str) : callP (XG G) TT 28 [encTbl t, .str nm] = some (fndT (fnd (fun t : Col => t.name == nm) 0 t.cols.items)) := by
  refine callP_val T28 rfl (by simp only [go_sem]) ?_
  unfold Tryd.f28
  simp only [Option.getD_some]
  have hlt := t.cols.lt
  simp (decide:=true) only[go_sem,Nat.reduceAdd,Nat.reduceMul,Nat.reduceSub]
  repeat (first|(with_reducible first|refine q1 ?_|refine q2 ?_|refine q3 ?_|refine q4 ?_|refine q5 ?_|refine q6 ?_|refine q7 ?_|refine q8 ?_|refine q9 ?_|refine q10 ?_|refine q11 ?_|refine q12 (by decide) ?_)|((first|with_reducible refine q13 ?_|((with_reducible refine q14 ?_ ?_);focus exact rfl));intro K hK;simp (decide:=true) only[go_sem,Nat.reduceAdd,Nat.reduceMul,Nat.reduceSub];with_reducible refine hK _ ?_;clear hK K)|(with_reducible refine q15 ?_;intro K J hK hJ;simp (decide:=true) only[go_sem,Nat.reduceAdd,Nat.reduceMul,Nat.reduceSub];(with_reducible first|refine hK ?_|refine hJ ?_);clear hK hJ K J))
  refine wpI_loop (T := Nat) [1, 2, 6] (fun k => ⟨slL [(1, .str nm), (2, .undef), (6, .int .i64 (k : Int))], opL [(2, (2, 0))], opL [(2, [.str t.name, sl 6 encCol t.cols, sl 1 (sl 1 I) t.keys, sl 3 encFgn t.fgns, sl 8 encEx t.checks])], ⟨[], []⟩⟩) (fun k => k ≤ t.cols.items.length ∧ fnd (fun t : Col => t.name == nm) k (t.cols.items.drop k) = fnd (fun t : Col => t.name == nm) 0 t.cols.items) (fun k => t.cols.items.length - k) 0 rfl (by simp (decide:=true) only[go_sem,Nat.reduceAdd,Nat.reduceMul,Nat.reduceSub] <;> rfl) (by simp) ?_
  rintro k ⟨hk, hP⟩
  by_cases h : k < t.cols.items.length
  · have l_x : ((k : Int) < ((t.cols.items).length : Int)) = True := by simp; omega
    obtain ⟨x, g_x⟩ : ∃ a_, (t.cols.items)[k]? = some a_ := ⟨_, List.getElem?_eq_getElem (by assumption)⟩
    have w_x := wrap_nat k (by omega)
    rw [dropc g_x, fnd] at hP
    cases c : (x.name == nm)
    · rw [c] at hP
      repeat (first|(with_reducible first|refine q1 ?_|refine q2 ?_|refine q3 ?_|refine q4 ?_|refine q5 ?_|refine q6 ?_|refine q7 ?_|refine q8 ?_|refine q9 ?_|refine q10 ?_|refine q11 ?_|refine q12 (by decide) ?_)|((first|with_reducible refine q13 ?_|((with_reducible refine q14 ?_ ?_);focus exact rfl));intro K hK;simp (decide:=true) only[go_sem,Nat.reduceAdd,Nat.reduceMul,Nat.reduceSub,l_x,g_x,w_x,l_x,g_x,w_x,c];with_reducible refine hK _ ?_;clear hK K)|(with_reducible refine q15 ?_;intro K J hK hJ;simp (decide:=true) only[go_sem,Nat.reduceAdd,Nat.reduceMul,Nat.reduceSub,l_x,g_x,w_x,l_x,g_x,w_x,c];(with_reducible first|refine hK ?_|refine hJ ?_);clear hK hJ K J))
      exact ⟨k + 1, by simp (decide:=true) only[go_sem,Nat.reduceAdd,Nat.reduceMul,Nat.reduceSub,l_x,g_x,w_x] <;> rfl, ⟨by omega, hP⟩, by omega⟩
    · rw [c] at hP
      repeat (first|(with_reducible first|refine q1 ?_|refine q2 ?_|refine q3 ?_|refine q4 ?_|refine q5 ?_|refine q6 ?_|refine q7 ?_|refine q8 ?_|refine q9 ?_|refine q10 ?_|refine q11 ?_|refine q12 (by decide) ?_)|((first|with_reducible refine q13 ?_|((with_reducible refine q14 ?_ ?_);focus exact rfl));intro K hK;simp (decide:=true) only[go_sem,Nat.reduceAdd,Nat.reduceMul,Nat.reduceSub,l_x,g_x,w_x,l_x,g_x,w_x,c];with_reducible refine hK _ ?_;clear hK K)|(with_reducible refine q15 ?_;intro K J hK hJ;simp (decide:=true) only[go_sem,Nat.reduceAdd,Nat.reduceMul,Nat.reduceSub,l_x,g_x,w_x,l_x,g_x,w_x,c];(with_reducible first|refine hK ?_|refine hJ ?_);clear hK hJ K J))
      simp (decide:=true) only[go_sem,Nat.reduceAdd,Nat.reduceMul,Nat.reduceSub,l_x,g_x,w_x]
      rw [← hP]
      rfl
  · have l_x : ((k : Int) < ((t.cols.items).length : Int)) = False := by simp; omega
    rw [List.drop_eq_nil_of_le (by omega), fnd] at hP
    repeat (first|(with_reducible first|refine q1 ?_|refine q2 ?_|refine q3 ?_|refine q4 ?_|refine q5 ?_|refine q6 ?_|refine q7 ?_|refine q8 ?_|refine q9 ?_|refine q10 ?_|refine q11 ?_|refine q12 (by decide) ?_)|((first|with_reducible refine q13 ?_|((with_reducible refine q14 ?_ ?_);focus exact rfl));intro K hK;simp (decide:=true) only[go_sem,Nat.reduceAdd,Nat.reduceMul,Nat.reduceSub,l_x,l_x];with_reducible refine hK _ ?_;clear hK K)|(with_reducible refine q15 ?_;intro K J hK hJ;simp (decide:=true) only[go_sem,Nat.reduceAdd,Nat.reduceMul,Nat.reduceSub,l_x,l_x];(with_reducible first|refine hK ?_|refine hJ ?_);clear hK hJ K J))
    simp (decide:=true) only[go_sem,Nat.reduceAdd,Nat.reduceMul,Nat.reduceSub,l_x]
    rw [← hP]
    rfl
theorem beqT {a b : Int} (h : a = b) : (a == b) = true := by simp [h]
theorem beqF {a b : Int} (h : ¬ a = b) : (a == b) = false := by simp [h]
end Go.Eng
