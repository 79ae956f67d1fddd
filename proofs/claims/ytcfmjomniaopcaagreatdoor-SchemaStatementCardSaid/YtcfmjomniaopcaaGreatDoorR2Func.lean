/- A part of the proof: see the last text. -/
import Derived.Test.YtcfmjomniaopcaaGreatDoorR2Name2
set_option linter.unusedSimpArgs false
set_option linter.unusedVariables false
/- Contracts of the generic functions on slices, for each type of elements (written by gen_funcs.py). -/
namespace Go.Eng
open Go Go.Proofs
open Nat (reduceAdd reduceMul reduceSub)
set_option maxRecDepth 20000
set_option maxHeartbeats 32000000
theorem fnd_some {α : Type} (p : α → Bool) : ∀ (l : List α) (i k : Nat), fnd p i l = some k → i ≤ k ∧ ∃ x, l[k - i]? = some x ∧ p x = true
  | a :: r, i, k, h => by
    rw [fnd] at h
    cases c : p a
    · rw [c] at h
      obtain ⟨h1, x, h2, h3⟩ := fnd_some p r (i + 1) k h
      refine ⟨by omega, x, ?_, h3⟩
      rw [show k - i = (k - (i + 1)) + 1 by omega]
      exact h2
    · rw [c] at h
      cases h
      exact ⟨Nat.le_refl _, a, by simp, c⟩
theorem fnd_any {α : Type} (p : α → Bool) : ∀ (l : List α) (i : Nat), (fnd p i l).isSome = l.any p
  | [], i => rfl
  | a :: r, i => by
    rw [fnd, List.any_cons]
    cases c : p a
    · simp only [fnd_any p r, Bool.false_or]
    · rfl
theorem not_any {α : Type} (p : α → Bool) (l : List α) : (!l.any fun x => !p x) = l.all p := by
  induction l with
  | nil => rfl
  | cons a r ih => simp only [List.any_cons, List.all_cons, Bool.not_or, Bool.not_not, ih]
theorem at_end {α : Type} (l : List α) (a : α) : (l ++ [a])[l.length]? = some a := by simp

theorem ixf65 (s : Sl Col) (g : Nat) (cap : List D) (m : Mem) (p : Col → Bool) (hg : (g < 100000) = True) (hp : ∀ x ∈ s.items, callR (XG GK) TT g m (encCol x :: cap) = some (.bool (p x), m)) :
    callR (XG GK) TT 93 m [sl 6 encCol s, .func g cap] = some (fndI (fnd p 0 s.items), m) := by
  refine callR_val T93 rfl ?_
  unfold Tryz.f93
  simp only [Option.getD_some]
  have hlt := s.lt
  simp +decide only[go_sem,reduceAdd,reduceMul,reduceSub,hg]
  refine gw hg ?_
  refine wpI_loopC (T := Nat) [0, 1, 7, 8] rfl (by simp +decide only[go_sem,reduceAdd,reduceMul,reduceSub,hg]; exact rfl) (fun k => [(8, .int .i64 (k : Int))]) (fun _ => []) (fun _ => m) (fun k => k ≤ s.items.length ∧ fnd p k (s.items.drop k) = fnd p 0 s.items) (fun k => s.items.length - k) 0 (by simp +decide only[go_sem,reduceAdd,reduceMul,reduceSub,hg] <;> rfl) (by simp) ?_
  rintro k ⟨hk, hP⟩
  by_cases h : k < s.items.length
  · have l_x : ((k : Int) < ((s.items).length : Int)) = True := by simp; omega
    obtain ⟨x, g_x⟩ : ∃ a_, (s.items)[k]? = some a_ := ⟨_, List.getElem?_eq_getElem (by assumption)⟩
    have w_x := wrap_nat k (by omega)
    rw [dropc g_x, fnd] at hP
    have hc := hp x (List.mem_of_getElem? g_x)
    simp only [encCol_eq] at hc
    cases c : (p x)
    · rw [c] at hP
      refine gw (an hg (an l_x (an g_x (an w_x (an hc c))))) ?_
      exact ⟨k + 1, by simp +decide only[go_sem,reduceAdd,reduceMul,reduceSub,hg,l_x,g_x,w_x,hc,c] <;> rfl, ⟨by omega, hP⟩, by omega⟩
    · rw [c] at hP
      refine gw (an hg (an l_x (an g_x (an w_x (an hc c))))) ?_
      simp +decide only[go_sem,reduceAdd,reduceMul,reduceSub,hg,l_x,g_x,w_x,hc,c]
      rw [← hP]
      exact ⟨rfl, trivial⟩
  · have l_x : ((k : Int) < ((s.items).length : Int)) = False := by simp; omega
    rw [List.drop_eq_nil_of_le (by omega), fnd] at hP
    refine gw (an hg l_x) ?_
    simp +decide only[go_sem,reduceAdd,reduceMul,reduceSub,hg,l_x]
    rw [← hP]
    exact ⟨rfl, trivial⟩
theorem ctf166 (s : Sl Col) (g : Nat) (cap : List D) (m : Mem) (p : Col → Bool) (hg : (g < 100000) = True) (hp : ∀ x ∈ s.items, callR (XG GK) TT g m (encCol x :: cap) = some (.bool (p x), m)) :
    callR (XG GK) TT 80 m [sl 6 encCol s, .func g cap] = some (.bool (s.items.any p), m) := by
  refine callR_val T80 rfl ?_
  unfold Tryz.f80
  simp only [Option.getD_some]
  have hc := ixf65 s g cap m p hg hp
  rw [← fnd_any p s.items 0]
  simp +decide only[go_sem,reduceAdd,reduceMul,reduceSub,hg,hc]
  refine gw (an hg hc) ?_
  generalize fnd p 0 s.items = o at *
  cases o with
  | none =>
    simp only [fndI] at hc
    refine gw (an hg hc) ?_
    simp +decide only[go_sem,reduceAdd,reduceMul,reduceSub,hg,hc]
    exact ⟨rfl, trivial⟩
  | some j =>
    simp only [fndI] at hc
    repeat (first|(with_reducible first|refine q1 ?_|refine q2 ?_|refine q3 ?_|refine q4 ?_|refine q5 ?_|refine q6 ?_|refine q7 ?_|refine q8 ?_|refine q9 ?_|refine q10 ?_|refine q11 ?_|refine q12 (by decide) ?_)|((first|with_reducible refine q13 ?_|((with_reducible refine q14 ?_ ?_);focus exact rfl));intro K hK;simp +decide only[go_sem,reduceAdd,reduceMul,reduceSub,hg,hc,nn_nat];with_reducible refine hK _ ?_;clear hK K)|(with_reducible refine q15 ?_;intro K J hK hJ;simp +decide only[go_sem,reduceAdd,reduceMul,reduceSub,hg,hc,nn_nat];(with_reducible first|refine hK ?_|refine hJ ?_);clear hK hJ K J))
    simp +decide only[go_sem,reduceAdd,reduceMul,reduceSub,hg,hc]
    exact ⟨rfl, trivial⟩
theorem alo167 (x : Col) (id : Nat) (g : Nat) (cap : List D) (m : Mem) (b : Bool) (hg : (g < 100000) = True) (hm : m.boxes[id]? = some [.func g cap]) (hc : callR (XG GK) TT g m (encCol x :: cap) = some (.bool b, m)) :
    callR (XG GK) TT 81 m [encCol x, .ptr id 0] = some (.bool (!b), m) := by
  refine callR_val T81 rfl ?_
  unfold Tryz.f81
  simp only [Option.getD_some]
  simp only [encCol_eq] at hc
  simp +decide only[go_sem,reduceAdd,reduceMul,reduceSub,hg,hm,hc]
  refine gw (an hg (an hm hc)) ?_
  simp +decide only[go_sem,reduceAdd,reduceMul,reduceSub,hg,hm,hc]
theorem all124 (s : Sl Col) (g : Nat) (cap : List D) (m : Mem) (p : Col → Bool) (hg : (g < 100000) = True) (hp : ∀ x ∈ s.items, callR (XG GK) TT g ⟨m.boxes ++ [[.func g cap]], m.toks⟩ (encCol x :: cap) = some (.bool (p x), ⟨m.boxes ++ [[.func g cap]], m.toks⟩)) :
    callR (XG GK) TT 45 m [sl 6 encCol s, .func g cap] = some (.bool (s.items.all p), ⟨m.boxes ++ [[.func g cap]], m.toks⟩) := by
  refine callR_val T45 rfl ?_
  unfold Tryz.f45
  simp only [Option.getD_some]
  have hc := ctf166 s 81 [.ptr m.boxes.length 0] ⟨m.boxes ++ [[.func g cap]], m.toks⟩ (fun x => !p x) (eq_true (by decide)) fun x hx => alo167 x m.boxes.length g cap _ (p x) hg (at_end _ _) (hp x hx)
  rw [← not_any p s.items]
  simp +decide only[go_sem,reduceAdd,reduceMul,reduceSub,hg,hc]
  refine gw (an hg hc) ?_
  simp +decide only[go_sem,reduceAdd,reduceMul,reduceSub,hg,hc]
theorem ixf179 (s : Sl (Sl Str)) (g : Nat) (cap : List D) (m : Mem) (p : (Sl Str) → Bool) (hg : (g < 100000) = True) (hp : ∀ x ∈ s.items, callR (XG GK) TT g m ((sl 1 S) x :: cap) = some (.bool (p x), m)) :
    callR (XG GK) TT 92 m [sl 1 (sl 1 S) s, .func g cap] = some (fndI (fnd p 0 s.items), m) := by
  refine callR_val T92 rfl ?_
  unfold Tryz.f92
  simp only [Option.getD_some]
  have hlt := s.lt
  simp +decide only[go_sem,reduceAdd,reduceMul,reduceSub,hg]
  refine gw hg ?_
  refine wpI_loopC (T := Nat) [0, 1, 7, 8] rfl (by simp +decide only[go_sem,reduceAdd,reduceMul,reduceSub,hg]; exact rfl) (fun k => [(8, .int .i64 (k : Int))]) (fun _ => []) (fun _ => m) (fun k => k ≤ s.items.length ∧ fnd p k (s.items.drop k) = fnd p 0 s.items) (fun k => s.items.length - k) 0 (by simp +decide only[go_sem,reduceAdd,reduceMul,reduceSub,hg] <;> rfl) (by simp) ?_
  rintro k ⟨hk, hP⟩
  by_cases h : k < s.items.length
  · have l_x : ((k : Int) < ((s.items).length : Int)) = True := by simp; omega
    obtain ⟨x, g_x⟩ : ∃ a_, (s.items)[k]? = some a_ := ⟨_, List.getElem?_eq_getElem (by assumption)⟩
    have w_x := wrap_nat k (by omega)
    rw [dropc g_x, fnd] at hP
    have hc := hp x (List.mem_of_getElem? g_x)
    cases c : (p x)
    · rw [c] at hP
      refine gw (an hg (an l_x (an g_x (an w_x (an hc c))))) ?_
      exact ⟨k + 1, by simp +decide only[go_sem,reduceAdd,reduceMul,reduceSub,hg,l_x,g_x,w_x,hc,c] <;> rfl, ⟨by omega, hP⟩, by omega⟩
    · rw [c] at hP
      refine gw (an hg (an l_x (an g_x (an w_x (an hc c))))) ?_
      simp +decide only[go_sem,reduceAdd,reduceMul,reduceSub,hg,l_x,g_x,w_x,hc,c]
      rw [← hP]
      exact ⟨rfl, trivial⟩
  · have l_x : ((k : Int) < ((s.items).length : Int)) = False := by simp; omega
    rw [List.drop_eq_nil_of_le (by omega), fnd] at hP
    refine gw (an hg l_x) ?_
    simp +decide only[go_sem,reduceAdd,reduceMul,reduceSub,hg,l_x]
    rw [← hP]
    exact ⟨rfl, trivial⟩
theorem ctf149 (s : Sl (Sl Str)) (g : Nat) (cap : List D) (m : Mem) (p : (Sl Str) → Bool) (hg : (g < 100000) = True) (hp : ∀ x ∈ s.items, callR (XG GK) TT g m ((sl 1 S) x :: cap) = some (.bool (p x), m)) :
    callR (XG GK) TT 64 m [sl 1 (sl 1 S) s, .func g cap] = some (.bool (s.items.any p), m) := by
  refine callR_val T64 rfl ?_
  unfold Tryz.f64
  simp only [Option.getD_some]
  have hc := ixf179 s g cap m p hg hp
  rw [← fnd_any p s.items 0]
  simp +decide only[go_sem,reduceAdd,reduceMul,reduceSub,hg,hc]
  refine gw (an hg hc) ?_
  generalize fnd p 0 s.items = o at *
  cases o with
  | none =>
    simp only [fndI] at hc
    refine gw (an hg hc) ?_
    simp +decide only[go_sem,reduceAdd,reduceMul,reduceSub,hg,hc]
    exact ⟨rfl, trivial⟩
  | some j =>
    simp only [fndI] at hc
    repeat (first|(with_reducible first|refine q1 ?_|refine q2 ?_|refine q3 ?_|refine q4 ?_|refine q5 ?_|refine q6 ?_|refine q7 ?_|refine q8 ?_|refine q9 ?_|refine q10 ?_|refine q11 ?_|refine q12 (by decide) ?_)|((first|with_reducible refine q13 ?_|((with_reducible refine q14 ?_ ?_);focus exact rfl));intro K hK;simp +decide only[go_sem,reduceAdd,reduceMul,reduceSub,hg,hc,nn_nat];with_reducible refine hK _ ?_;clear hK K)|(with_reducible refine q15 ?_;intro K J hK hJ;simp +decide only[go_sem,reduceAdd,reduceMul,reduceSub,hg,hc,nn_nat];(with_reducible first|refine hK ?_|refine hJ ?_);clear hK hJ K J))
    simp +decide only[go_sem,reduceAdd,reduceMul,reduceSub,hg,hc]
    exact ⟨rfl, trivial⟩
theorem alo176 (x : (Sl Str)) (id : Nat) (g : Nat) (cap : List D) (m : Mem) (b : Bool) (hg : (g < 100000) = True) (hm : m.boxes[id]? = some [.func g cap]) (hc : callR (XG GK) TT g m ((sl 1 S) x :: cap) = some (.bool b, m)) :
    callR (XG GK) TT 89 m [(sl 1 S) x, .ptr id 0] = some (.bool (!b), m) := by
  refine callR_val T89 rfl ?_
  unfold Tryz.f89
  simp only [Option.getD_some]
  simp +decide only[go_sem,reduceAdd,reduceMul,reduceSub,hg,hm,hc]
  refine gw (an hg (an hm hc)) ?_
  simp +decide only[go_sem,reduceAdd,reduceMul,reduceSub,hg,hm,hc]
theorem all145 (s : Sl (Sl Str)) (g : Nat) (cap : List D) (m : Mem) (p : (Sl Str) → Bool) (hg : (g < 100000) = True) (hp : ∀ x ∈ s.items, callR (XG GK) TT g ⟨m.boxes ++ [[.func g cap]], m.toks⟩ ((sl 1 S) x :: cap) = some (.bool (p x), ⟨m.boxes ++ [[.func g cap]], m.toks⟩)) :
    callR (XG GK) TT 60 m [sl 1 (sl 1 S) s, .func g cap] = some (.bool (s.items.all p), ⟨m.boxes ++ [[.func g cap]], m.toks⟩) := by
  refine callR_val T60 rfl ?_
  unfold Tryz.f60
  simp only [Option.getD_some]
  have hc := ctf149 s 89 [.ptr m.boxes.length 0] ⟨m.boxes ++ [[.func g cap]], m.toks⟩ (fun x => !p x) (eq_true (by decide)) fun x hx => alo176 x m.boxes.length g cap _ (p x) hg (at_end _ _) (hp x hx)
  rw [← not_any p s.items]
  simp +decide only[go_sem,reduceAdd,reduceMul,reduceSub,hg,hc]
  refine gw (an hg hc) ?_
  simp +decide only[go_sem,reduceAdd,reduceMul,reduceSub,hg,hc]
theorem ixf187 (s : Sl FgS) (g : Nat) (cap : List D) (m : Mem) (p : FgS → Bool) (hg : (g < 100000) = True) (hp : ∀ x ∈ s.items, callR (XG GK) TT g m (encFgS x :: cap) = some (.bool (p x), m)) :
    callR (XG GK) TT 103 m [sl 3 encFgS s, .func g cap] = some (fndI (fnd p 0 s.items), m) := by
  refine callR_val T103 rfl ?_
  unfold Tryz.f103
  simp only [Option.getD_some]
  have hlt := s.lt
  simp +decide only[go_sem,reduceAdd,reduceMul,reduceSub,hg]
  refine gw hg ?_
  refine wpI_loopC (T := Nat) [0, 1, 7, 8] rfl (by simp +decide only[go_sem,reduceAdd,reduceMul,reduceSub,hg]; exact rfl) (fun k => [(8, .int .i64 (k : Int))]) (fun _ => []) (fun _ => m) (fun k => k ≤ s.items.length ∧ fnd p k (s.items.drop k) = fnd p 0 s.items) (fun k => s.items.length - k) 0 (by simp +decide only[go_sem,reduceAdd,reduceMul,reduceSub,hg] <;> rfl) (by simp) ?_
  rintro k ⟨hk, hP⟩
  by_cases h : k < s.items.length
  · have l_x : ((k : Int) < ((s.items).length : Int)) = True := by simp; omega
    obtain ⟨x, g_x⟩ : ∃ a_, (s.items)[k]? = some a_ := ⟨_, List.getElem?_eq_getElem (by assumption)⟩
    have w_x := wrap_nat k (by omega)
    rw [dropc g_x, fnd] at hP
    have hc := hp x (List.mem_of_getElem? g_x)
    simp only [encFgS_eq] at hc
    cases c : (p x)
    · rw [c] at hP
      refine gw (an hg (an l_x (an g_x (an w_x (an hc c))))) ?_
      exact ⟨k + 1, by simp +decide only[go_sem,reduceAdd,reduceMul,reduceSub,hg,l_x,g_x,w_x,hc,c] <;> rfl, ⟨by omega, hP⟩, by omega⟩
    · rw [c] at hP
      refine gw (an hg (an l_x (an g_x (an w_x (an hc c))))) ?_
      simp +decide only[go_sem,reduceAdd,reduceMul,reduceSub,hg,l_x,g_x,w_x,hc,c]
      rw [← hP]
      exact ⟨rfl, trivial⟩
  · have l_x : ((k : Int) < ((s.items).length : Int)) = False := by simp; omega
    rw [List.drop_eq_nil_of_le (by omega), fnd] at hP
    refine gw (an hg l_x) ?_
    simp +decide only[go_sem,reduceAdd,reduceMul,reduceSub,hg,l_x]
    rw [← hP]
    exact ⟨rfl, trivial⟩
theorem ctf177 (s : Sl FgS) (g : Nat) (cap : List D) (m : Mem) (p : FgS → Bool) (hg : (g < 100000) = True) (hp : ∀ x ∈ s.items, callR (XG GK) TT g m (encFgS x :: cap) = some (.bool (p x), m)) :
    callR (XG GK) TT 90 m [sl 3 encFgS s, .func g cap] = some (.bool (s.items.any p), m) := by
  refine callR_val T90 rfl ?_
  unfold Tryz.f90
  simp only [Option.getD_some]
  have hc := ixf187 s g cap m p hg hp
  rw [← fnd_any p s.items 0]
  simp +decide only[go_sem,reduceAdd,reduceMul,reduceSub,hg,hc]
  refine gw (an hg hc) ?_
  generalize fnd p 0 s.items = o at *
  cases o with
  | none =>
    simp only [fndI] at hc
    refine gw (an hg hc) ?_
    simp +decide only[go_sem,reduceAdd,reduceMul,reduceSub,hg,hc]
    exact ⟨rfl, trivial⟩
  | some j =>
    simp only [fndI] at hc
    repeat (first|(with_reducible first|refine q1 ?_|refine q2 ?_|refine q3 ?_|refine q4 ?_|refine q5 ?_|refine q6 ?_|refine q7 ?_|refine q8 ?_|refine q9 ?_|refine q10 ?_|refine q11 ?_|refine q12 (by decide) ?_)|((first|with_reducible refine q13 ?_|((with_reducible refine q14 ?_ ?_);focus exact rfl));intro K hK;simp +decide only[go_sem,reduceAdd,reduceMul,reduceSub,hg,hc,nn_nat];with_reducible refine hK _ ?_;clear hK K)|(with_reducible refine q15 ?_;intro K J hK hJ;simp +decide only[go_sem,reduceAdd,reduceMul,reduceSub,hg,hc,nn_nat];(with_reducible first|refine hK ?_|refine hJ ?_);clear hK hJ K J))
    simp +decide only[go_sem,reduceAdd,reduceMul,reduceSub,hg,hc]
    exact ⟨rfl, trivial⟩
theorem alo178 (x : FgS) (id : Nat) (g : Nat) (cap : List D) (m : Mem) (b : Bool) (hg : (g < 100000) = True) (hm : m.boxes[id]? = some [.func g cap]) (hc : callR (XG GK) TT g m (encFgS x :: cap) = some (.bool b, m)) :
    callR (XG GK) TT 91 m [encFgS x, .ptr id 0] = some (.bool (!b), m) := by
  refine callR_val T91 rfl ?_
  unfold Tryz.f91
  simp only [Option.getD_some]
  simp only [encFgS_eq] at hc
  simp +decide only[go_sem,reduceAdd,reduceMul,reduceSub,hg,hm,hc]
  refine gw (an hg (an hm hc)) ?_
  simp +decide only[go_sem,reduceAdd,reduceMul,reduceSub,hg,hm,hc]
theorem all147 (s : Sl FgS) (g : Nat) (cap : List D) (m : Mem) (p : FgS → Bool) (hg : (g < 100000) = True) (hp : ∀ x ∈ s.items, callR (XG GK) TT g ⟨m.boxes ++ [[.func g cap]], m.toks⟩ (encFgS x :: cap) = some (.bool (p x), ⟨m.boxes ++ [[.func g cap]], m.toks⟩)) :
    callR (XG GK) TT 62 m [sl 3 encFgS s, .func g cap] = some (.bool (s.items.all p), ⟨m.boxes ++ [[.func g cap]], m.toks⟩) := by
  refine callR_val T62 rfl ?_
  unfold Tryz.f62
  simp only [Option.getD_some]
  have hc := ctf177 s 91 [.ptr m.boxes.length 0] ⟨m.boxes ++ [[.func g cap]], m.toks⟩ (fun x => !p x) (eq_true (by decide)) fun x hx => alo178 x m.boxes.length g cap _ (p x) hg (at_end _ _) (hp x hx)
  rw [← not_any p s.items]
  simp +decide only[go_sem,reduceAdd,reduceMul,reduceSub,hg,hc]
  refine gw (an hg hc) ?_
  simp +decide only[go_sem,reduceAdd,reduceMul,reduceSub,hg,hc]
theorem ixf180 (s : Sl Fgn) (g : Nat) (cap : List D) (m : Mem) (p : Fgn → Bool) (hg : (g < 100000) = True) (hp : ∀ x ∈ s.items, callR (XG GK) TT g m (encFgn x :: cap) = some (.bool (p x), m)) :
    callR (XG GK) TT 95 m [sl 3 encFgn s, .func g cap] = some (fndI (fnd p 0 s.items), m) := by
  refine callR_val T95 rfl ?_
  unfold Tryz.f95
  simp only [Option.getD_some]
  have hlt := s.lt
  simp +decide only[go_sem,reduceAdd,reduceMul,reduceSub,hg]
  refine gw hg ?_
  refine wpI_loopC (T := Nat) [0, 1, 7, 8] rfl (by simp +decide only[go_sem,reduceAdd,reduceMul,reduceSub,hg]; exact rfl) (fun k => [(8, .int .i64 (k : Int))]) (fun _ => []) (fun _ => m) (fun k => k ≤ s.items.length ∧ fnd p k (s.items.drop k) = fnd p 0 s.items) (fun k => s.items.length - k) 0 (by simp +decide only[go_sem,reduceAdd,reduceMul,reduceSub,hg] <;> rfl) (by simp) ?_
  rintro k ⟨hk, hP⟩
  by_cases h : k < s.items.length
  · have l_x : ((k : Int) < ((s.items).length : Int)) = True := by simp; omega
    obtain ⟨x, g_x⟩ : ∃ a_, (s.items)[k]? = some a_ := ⟨_, List.getElem?_eq_getElem (by assumption)⟩
    have w_x := wrap_nat k (by omega)
    rw [dropc g_x, fnd] at hP
    have hc := hp x (List.mem_of_getElem? g_x)
    simp only [encFgn_eq] at hc
    cases c : (p x)
    · rw [c] at hP
      refine gw (an hg (an l_x (an g_x (an w_x (an hc c))))) ?_
      exact ⟨k + 1, by simp +decide only[go_sem,reduceAdd,reduceMul,reduceSub,hg,l_x,g_x,w_x,hc,c] <;> rfl, ⟨by omega, hP⟩, by omega⟩
    · rw [c] at hP
      refine gw (an hg (an l_x (an g_x (an w_x (an hc c))))) ?_
      simp +decide only[go_sem,reduceAdd,reduceMul,reduceSub,hg,l_x,g_x,w_x,hc,c]
      rw [← hP]
      exact ⟨rfl, trivial⟩
  · have l_x : ((k : Int) < ((s.items).length : Int)) = False := by simp; omega
    rw [List.drop_eq_nil_of_le (by omega), fnd] at hP
    refine gw (an hg l_x) ?_
    simp +decide only[go_sem,reduceAdd,reduceMul,reduceSub,hg,l_x]
    rw [← hP]
    exact ⟨rfl, trivial⟩
theorem ctf155 (s : Sl Fgn) (g : Nat) (cap : List D) (m : Mem) (p : Fgn → Bool) (hg : (g < 100000) = True) (hp : ∀ x ∈ s.items, callR (XG GK) TT g m (encFgn x :: cap) = some (.bool (p x), m)) :
    callR (XG GK) TT 71 m [sl 3 encFgn s, .func g cap] = some (.bool (s.items.any p), m) := by
  refine callR_val T71 rfl ?_
  unfold Tryz.f71
  simp only [Option.getD_some]
  have hc := ixf180 s g cap m p hg hp
  rw [← fnd_any p s.items 0]
  simp +decide only[go_sem,reduceAdd,reduceMul,reduceSub,hg,hc]
  refine gw (an hg hc) ?_
  generalize fnd p 0 s.items = o at *
  cases o with
  | none =>
    simp only [fndI] at hc
    refine gw (an hg hc) ?_
    simp +decide only[go_sem,reduceAdd,reduceMul,reduceSub,hg,hc]
    exact ⟨rfl, trivial⟩
  | some j =>
    simp only [fndI] at hc
    repeat (first|(with_reducible first|refine q1 ?_|refine q2 ?_|refine q3 ?_|refine q4 ?_|refine q5 ?_|refine q6 ?_|refine q7 ?_|refine q8 ?_|refine q9 ?_|refine q10 ?_|refine q11 ?_|refine q12 (by decide) ?_)|((first|with_reducible refine q13 ?_|((with_reducible refine q14 ?_ ?_);focus exact rfl));intro K hK;simp +decide only[go_sem,reduceAdd,reduceMul,reduceSub,hg,hc,nn_nat];with_reducible refine hK _ ?_;clear hK K)|(with_reducible refine q15 ?_;intro K J hK hJ;simp +decide only[go_sem,reduceAdd,reduceMul,reduceSub,hg,hc,nn_nat];(with_reducible first|refine hK ?_|refine hJ ?_);clear hK hJ K J))
    simp +decide only[go_sem,reduceAdd,reduceMul,reduceSub,hg,hc]
    exact ⟨rfl, trivial⟩
theorem alo156 (x : Fgn) (id : Nat) (g : Nat) (cap : List D) (m : Mem) (b : Bool) (hg : (g < 100000) = True) (hm : m.boxes[id]? = some [.func g cap]) (hc : callR (XG GK) TT g m (encFgn x :: cap) = some (.bool b, m)) :
    callR (XG GK) TT 72 m [encFgn x, .ptr id 0] = some (.bool (!b), m) := by
  refine callR_val T72 rfl ?_
  unfold Tryz.f72
  simp only [Option.getD_some]
  simp only [encFgn_eq] at hc
  simp +decide only[go_sem,reduceAdd,reduceMul,reduceSub,hg,hm,hc]
  refine gw (an hg (an hm hc)) ?_
  simp +decide only[go_sem,reduceAdd,reduceMul,reduceSub,hg,hm,hc]
theorem all100 (s : Sl Fgn) (g : Nat) (cap : List D) (m : Mem) (p : Fgn → Bool) (hg : (g < 100000) = True) (hp : ∀ x ∈ s.items, callR (XG GK) TT g ⟨m.boxes ++ [[.func g cap]], m.toks⟩ (encFgn x :: cap) = some (.bool (p x), ⟨m.boxes ++ [[.func g cap]], m.toks⟩)) :
    callR (XG GK) TT 40 m [sl 3 encFgn s, .func g cap] = some (.bool (s.items.all p), ⟨m.boxes ++ [[.func g cap]], m.toks⟩) := by
  refine callR_val T40 rfl ?_
  unfold Tryz.f40
  simp only [Option.getD_some]
  have hc := ctf155 s 72 [.ptr m.boxes.length 0] ⟨m.boxes ++ [[.func g cap]], m.toks⟩ (fun x => !p x) (eq_true (by decide)) fun x hx => alo156 x m.boxes.length g cap _ (p x) hg (at_end _ _) (hp x hx)
  rw [← not_any p s.items]
  simp +decide only[go_sem,reduceAdd,reduceMul,reduceSub,hg,hc]
  refine gw (an hg hc) ?_
  simp +decide only[go_sem,reduceAdd,reduceMul,reduceSub,hg,hc]
theorem ixf190 (s : Sl I64) (g : Nat) (cap : List D) (m : Mem) (p : I64 → Bool) (hg : (g < 100000) = True) (hp : ∀ x ∈ s.items, callR (XG GK) TT g m (I x :: cap) = some (.bool (p x), m)) :
    callR (XG GK) TT 107 m [sl 1 I s, .func g cap] = some (fndI (fnd p 0 s.items), m) := by
  refine callR_val T107 rfl ?_
  unfold Tryz.f107
  simp only [Option.getD_some]
  have hlt := s.lt
  simp +decide only[go_sem,reduceAdd,reduceMul,reduceSub,hg]
  refine gw hg ?_
  refine wpI_loopC (T := Nat) [0, 1, 7, 8] rfl (by simp +decide only[go_sem,reduceAdd,reduceMul,reduceSub,hg]; exact rfl) (fun k => [(8, .int .i64 (k : Int))]) (fun _ => []) (fun _ => m) (fun k => k ≤ s.items.length ∧ fnd p k (s.items.drop k) = fnd p 0 s.items) (fun k => s.items.length - k) 0 (by simp +decide only[go_sem,reduceAdd,reduceMul,reduceSub,hg] <;> rfl) (by simp) ?_
  rintro k ⟨hk, hP⟩
  by_cases h : k < s.items.length
  · have l_x : ((k : Int) < ((s.items).length : Int)) = True := by simp; omega
    obtain ⟨x, g_x⟩ : ∃ a_, (s.items)[k]? = some a_ := ⟨_, List.getElem?_eq_getElem (by assumption)⟩
    have w_x := wrap_nat k (by omega)
    rw [dropc g_x, fnd] at hP
    have hc := hp x (List.mem_of_getElem? g_x)
    simp only [I_eq] at hc
    cases c : (p x)
    · rw [c] at hP
      refine gw (an hg (an l_x (an g_x (an w_x (an hc c))))) ?_
      exact ⟨k + 1, by simp +decide only[go_sem,reduceAdd,reduceMul,reduceSub,hg,l_x,g_x,w_x,hc,c] <;> rfl, ⟨by omega, hP⟩, by omega⟩
    · rw [c] at hP
      refine gw (an hg (an l_x (an g_x (an w_x (an hc c))))) ?_
      simp +decide only[go_sem,reduceAdd,reduceMul,reduceSub,hg,l_x,g_x,w_x,hc,c]
      rw [← hP]
      exact ⟨rfl, trivial⟩
  · have l_x : ((k : Int) < ((s.items).length : Int)) = False := by simp; omega
    rw [List.drop_eq_nil_of_le (by omega), fnd] at hP
    refine gw (an hg l_x) ?_
    simp +decide only[go_sem,reduceAdd,reduceMul,reduceSub,hg,l_x]
    rw [← hP]
    exact ⟨rfl, trivial⟩
theorem ctf185 (s : Sl I64) (g : Nat) (cap : List D) (m : Mem) (p : I64 → Bool) (hg : (g < 100000) = True) (hp : ∀ x ∈ s.items, callR (XG GK) TT g m (I x :: cap) = some (.bool (p x), m)) :
    callR (XG GK) TT 101 m [sl 1 I s, .func g cap] = some (.bool (s.items.any p), m) := by
  refine callR_val T101 rfl ?_
  unfold Tryz.f101
  simp only [Option.getD_some]
  have hc := ixf190 s g cap m p hg hp
  rw [← fnd_any p s.items 0]
  simp +decide only[go_sem,reduceAdd,reduceMul,reduceSub,hg,hc]
  refine gw (an hg hc) ?_
  generalize fnd p 0 s.items = o at *
  cases o with
  | none =>
    simp only [fndI] at hc
    refine gw (an hg hc) ?_
    simp +decide only[go_sem,reduceAdd,reduceMul,reduceSub,hg,hc]
    exact ⟨rfl, trivial⟩
  | some j =>
    simp only [fndI] at hc
    repeat (first|(with_reducible first|refine q1 ?_|refine q2 ?_|refine q3 ?_|refine q4 ?_|refine q5 ?_|refine q6 ?_|refine q7 ?_|refine q8 ?_|refine q9 ?_|refine q10 ?_|refine q11 ?_|refine q12 (by decide) ?_)|((first|with_reducible refine q13 ?_|((with_reducible refine q14 ?_ ?_);focus exact rfl));intro K hK;simp +decide only[go_sem,reduceAdd,reduceMul,reduceSub,hg,hc,nn_nat];with_reducible refine hK _ ?_;clear hK K)|(with_reducible refine q15 ?_;intro K J hK hJ;simp +decide only[go_sem,reduceAdd,reduceMul,reduceSub,hg,hc,nn_nat];(with_reducible first|refine hK ?_|refine hJ ?_);clear hK hJ K J))
    simp +decide only[go_sem,reduceAdd,reduceMul,reduceSub,hg,hc]
    exact ⟨rfl, trivial⟩
theorem alo186 (x : I64) (id : Nat) (g : Nat) (cap : List D) (m : Mem) (b : Bool) (hg : (g < 100000) = True) (hm : m.boxes[id]? = some [.func g cap]) (hc : callR (XG GK) TT g m (I x :: cap) = some (.bool b, m)) :
    callR (XG GK) TT 102 m [I x, .ptr id 0] = some (.bool (!b), m) := by
  refine callR_val T102 rfl ?_
  unfold Tryz.f102
  simp only [Option.getD_some]
  simp only [I_eq] at hc
  simp +decide only[go_sem,reduceAdd,reduceMul,reduceSub,hg,hm,hc]
  refine gw (an hg (an hm hc)) ?_
  simp +decide only[go_sem,reduceAdd,reduceMul,reduceSub,hg,hm,hc]
theorem all170 (s : Sl I64) (g : Nat) (cap : List D) (m : Mem) (p : I64 → Bool) (hg : (g < 100000) = True) (hp : ∀ x ∈ s.items, callR (XG GK) TT g ⟨m.boxes ++ [[.func g cap]], m.toks⟩ (I x :: cap) = some (.bool (p x), ⟨m.boxes ++ [[.func g cap]], m.toks⟩)) :
    callR (XG GK) TT 84 m [sl 1 I s, .func g cap] = some (.bool (s.items.all p), ⟨m.boxes ++ [[.func g cap]], m.toks⟩) := by
  refine callR_val T84 rfl ?_
  unfold Tryz.f84
  simp only [Option.getD_some]
  have hc := ctf185 s 102 [.ptr m.boxes.length 0] ⟨m.boxes ++ [[.func g cap]], m.toks⟩ (fun x => !p x) (eq_true (by decide)) fun x hx => alo186 x m.boxes.length g cap _ (p x) hg (at_end _ _) (hp x hx)
  rw [← not_any p s.items]
  simp +decide only[go_sem,reduceAdd,reduceMul,reduceSub,hg,hc]
  refine gw (an hg hc) ?_
  simp +decide only[go_sem,reduceAdd,reduceMul,reduceSub,hg,hc]
theorem ixf153 (s : Sl (Sl I64)) (g : Nat) (cap : List D) (m : Mem) (p : (Sl I64) → Bool) (hg : (g < 100000) = True) (hp : ∀ x ∈ s.items, callR (XG GK) TT g m ((sl 1 I) x :: cap) = some (.bool (p x), m)) :
    callR (XG GK) TT 69 m [sl 1 (sl 1 I) s, .func g cap] = some (fndI (fnd p 0 s.items), m) := by
  refine callR_val T69 rfl ?_
  unfold Tryz.f69
  simp only [Option.getD_some]
  have hlt := s.lt
  simp +decide only[go_sem,reduceAdd,reduceMul,reduceSub,hg]
  refine gw hg ?_
  refine wpI_loopC (T := Nat) [0, 1, 7, 8] rfl (by simp +decide only[go_sem,reduceAdd,reduceMul,reduceSub,hg]; exact rfl) (fun k => [(8, .int .i64 (k : Int))]) (fun _ => []) (fun _ => m) (fun k => k ≤ s.items.length ∧ fnd p k (s.items.drop k) = fnd p 0 s.items) (fun k => s.items.length - k) 0 (by simp +decide only[go_sem,reduceAdd,reduceMul,reduceSub,hg] <;> rfl) (by simp) ?_
  rintro k ⟨hk, hP⟩
  by_cases h : k < s.items.length
  · have l_x : ((k : Int) < ((s.items).length : Int)) = True := by simp; omega
    obtain ⟨x, g_x⟩ : ∃ a_, (s.items)[k]? = some a_ := ⟨_, List.getElem?_eq_getElem (by assumption)⟩
    have w_x := wrap_nat k (by omega)
    rw [dropc g_x, fnd] at hP
    have hc := hp x (List.mem_of_getElem? g_x)
    cases c : (p x)
    · rw [c] at hP
      refine gw (an hg (an l_x (an g_x (an w_x (an hc c))))) ?_
      exact ⟨k + 1, by simp +decide only[go_sem,reduceAdd,reduceMul,reduceSub,hg,l_x,g_x,w_x,hc,c] <;> rfl, ⟨by omega, hP⟩, by omega⟩
    · rw [c] at hP
      refine gw (an hg (an l_x (an g_x (an w_x (an hc c))))) ?_
      simp +decide only[go_sem,reduceAdd,reduceMul,reduceSub,hg,l_x,g_x,w_x,hc,c]
      rw [← hP]
      exact ⟨rfl, trivial⟩
  · have l_x : ((k : Int) < ((s.items).length : Int)) = False := by simp; omega
    rw [List.drop_eq_nil_of_le (by omega), fnd] at hP
    refine gw (an hg l_x) ?_
    simp +decide only[go_sem,reduceAdd,reduceMul,reduceSub,hg,l_x]
    rw [← hP]
    exact ⟨rfl, trivial⟩
theorem ctf114 (s : Sl (Sl I64)) (g : Nat) (cap : List D) (m : Mem) (p : (Sl I64) → Bool) (hg : (g < 100000) = True) (hp : ∀ x ∈ s.items, callR (XG GK) TT g m ((sl 1 I) x :: cap) = some (.bool (p x), m)) :
    callR (XG GK) TT 50 m [sl 1 (sl 1 I) s, .func g cap] = some (.bool (s.items.any p), m) := by
  refine callR_val T50 rfl ?_
  unfold Tryz.f50
  simp only [Option.getD_some]
  have hc := ixf153 s g cap m p hg hp
  rw [← fnd_any p s.items 0]
  simp +decide only[go_sem,reduceAdd,reduceMul,reduceSub,hg,hc]
  refine gw (an hg hc) ?_
  generalize fnd p 0 s.items = o at *
  cases o with
  | none =>
    simp only [fndI] at hc
    refine gw (an hg hc) ?_
    simp +decide only[go_sem,reduceAdd,reduceMul,reduceSub,hg,hc]
    exact ⟨rfl, trivial⟩
  | some j =>
    simp only [fndI] at hc
    repeat (first|(with_reducible first|refine q1 ?_|refine q2 ?_|refine q3 ?_|refine q4 ?_|refine q5 ?_|refine q6 ?_|refine q7 ?_|refine q8 ?_|refine q9 ?_|refine q10 ?_|refine q11 ?_|refine q12 (by decide) ?_)|((first|with_reducible refine q13 ?_|((with_reducible refine q14 ?_ ?_);focus exact rfl));intro K hK;simp +decide only[go_sem,reduceAdd,reduceMul,reduceSub,hg,hc,nn_nat];with_reducible refine hK _ ?_;clear hK K)|(with_reducible refine q15 ?_;intro K J hK hJ;simp +decide only[go_sem,reduceAdd,reduceMul,reduceSub,hg,hc,nn_nat];(with_reducible first|refine hK ?_|refine hJ ?_);clear hK hJ K J))
    simp +decide only[go_sem,reduceAdd,reduceMul,reduceSub,hg,hc]
    exact ⟨rfl, trivial⟩
theorem ix184 (s : Sl Str) (y : Str) {G : Nat → Option (List D)} : callP (XG G) TT 99 [sl 1 S s, .str y] = some (fndI (fnd (fun x => y == x) 0 s.items)) := by
  generalize hp : (fun x => y == x) = p
  have hp : ∀ x, p x = (y == x) := fun x => by rw [← hp]
  refine callP_val T99 rfl (by simp only [go_sem]) ?_
  unfold Tryz.f99
  simp only [Option.getD_some]
  have hlt := s.lt
  simp +decide only[go_sem,reduceAdd,reduceMul,reduceSub]
  refine gw trivial ?_
  refine wpI_loopC (T := Nat) [0, 1, 7, 8] rfl (by simp +decide only[go_sem,reduceAdd,reduceMul,reduceSub]; exact rfl) (fun k => [(8, .int .i64 (k : Int))]) (fun _ => []) (fun _ => ⟨[], []⟩) (fun k => k ≤ s.items.length ∧ fnd p k (s.items.drop k) = fnd p 0 s.items) (fun k => s.items.length - k) 0 (by simp +decide only[go_sem,reduceAdd,reduceMul,reduceSub] <;> rfl) (by simp) ?_
  rintro k ⟨hk, hP⟩
  by_cases h : k < s.items.length
  · have l_x : ((k : Int) < ((s.items).length : Int)) = True := by simp; omega
    obtain ⟨x, g_x⟩ : ∃ a_, (s.items)[k]? = some a_ := ⟨_, List.getElem?_eq_getElem (by assumption)⟩
    have w_x := wrap_nat k (by omega)
    rw [dropc g_x, fnd, hp] at hP
    cases c : (y == x)
    · rw [c] at hP
      refine gw (an l_x (an g_x (an w_x c))) ?_
      exact ⟨k + 1, by simp +decide only[go_sem,reduceAdd,reduceMul,reduceSub,l_x,g_x,w_x,c] <;> rfl, ⟨by omega, hP⟩, by omega⟩
    · rw [c] at hP
      refine gw (an l_x (an g_x (an w_x c))) ?_
      simp +decide only[go_sem,reduceAdd,reduceMul,reduceSub,l_x,g_x,w_x,c]
      rw [← hP]
      rfl
  · have l_x : ((k : Int) < ((s.items).length : Int)) = False := by simp; omega
    rw [List.drop_eq_nil_of_le (by omega), fnd] at hP
    refine gw l_x ?_
    simp +decide only[go_sem,reduceAdd,reduceMul,reduceSub,l_x]
    rw [← hP]
    rfl
theorem ct168 (s : Sl Str) (y : Str) {G : Nat → Option (List D)} : callP (XG G) TT 82 [sl 1 S s, .str y] = some (.bool (s.items.any (fun x => y == x))) := by
  refine callP_val T82 rfl (by simp only [go_sem]) ?_
  unfold Tryz.f82
  simp only [Option.getD_some]
  have hc := ix184 (G := G) s y
  rw [← fnd_any (fun x => y == x) s.items 0]
  simp +decide only[go_sem,reduceAdd,reduceMul,reduceSub,hc]
  refine gw hc ?_
  generalize fnd (fun x => y == x) 0 s.items = o at *
  cases o with
  | none =>
    simp only [fndI] at hc
    refine gw hc ?_
    simp +decide only[go_sem,reduceAdd,reduceMul,reduceSub,hc]
    rfl
  | some j =>
    simp only [fndI] at hc
    repeat (first|(with_reducible first|refine q1 ?_|refine q2 ?_|refine q3 ?_|refine q4 ?_|refine q5 ?_|refine q6 ?_|refine q7 ?_|refine q8 ?_|refine q9 ?_|refine q10 ?_|refine q11 ?_|refine q12 (by decide) ?_)|((first|with_reducible refine q13 ?_|((with_reducible refine q14 ?_ ?_);focus exact rfl));intro K hK;simp +decide only[go_sem,reduceAdd,reduceMul,reduceSub,hc,nn_nat];with_reducible refine hK _ ?_;clear hK K)|(with_reducible refine q15 ?_;intro K J hK hJ;simp +decide only[go_sem,reduceAdd,reduceMul,reduceSub,hc,nn_nat];(with_reducible first|refine hK ?_|refine hJ ?_);clear hK hJ K J))
    simp +decide only[go_sem,reduceAdd,reduceMul,reduceSub,hc]
    rfl
theorem ix174 (s : Sl I64) (y : Int) {G : Nat → Option (List D)} : callP (XG G) TT 106 [sl 1 I s, .int .i64 y] = some (fndI (fnd (fun x : I64 => y == x.1) 0 s.items)) := by
  generalize hp : (fun x : I64 => y == x.1) = p
  have hp : ∀ x, p x = (y == x.1) := fun x => by rw [← hp]
  refine callP_val T106 rfl (by simp only [go_sem]) ?_
  unfold Tryz.f106
  simp only [Option.getD_some]
  have hlt := s.lt
  simp +decide only[go_sem,reduceAdd,reduceMul,reduceSub]
  refine gw trivial ?_
  refine wpI_loopC (T := Nat) [0, 1, 7, 8] rfl (by simp +decide only[go_sem,reduceAdd,reduceMul,reduceSub]; exact rfl) (fun k => [(8, .int .i64 (k : Int))]) (fun _ => []) (fun _ => ⟨[], []⟩) (fun k => k ≤ s.items.length ∧ fnd p k (s.items.drop k) = fnd p 0 s.items) (fun k => s.items.length - k) 0 (by simp +decide only[go_sem,reduceAdd,reduceMul,reduceSub] <;> rfl) (by simp) ?_
  rintro k ⟨hk, hP⟩
  by_cases h : k < s.items.length
  · have l_x : ((k : Int) < ((s.items).length : Int)) = True := by simp; omega
    obtain ⟨x, g_x⟩ : ∃ a_, (s.items)[k]? = some a_ := ⟨_, List.getElem?_eq_getElem (by assumption)⟩
    have w_x := wrap_nat k (by omega)
    rw [dropc g_x, fnd, hp] at hP
    cases c : (y == x.1)
    · rw [c] at hP
      refine gw (an l_x (an g_x (an w_x c))) ?_
      exact ⟨k + 1, by simp +decide only[go_sem,reduceAdd,reduceMul,reduceSub,l_x,g_x,w_x,c] <;> rfl, ⟨by omega, hP⟩, by omega⟩
    · rw [c] at hP
      refine gw (an l_x (an g_x (an w_x c))) ?_
      simp +decide only[go_sem,reduceAdd,reduceMul,reduceSub,l_x,g_x,w_x,c]
      rw [← hP]
      rfl
  · have l_x : ((k : Int) < ((s.items).length : Int)) = False := by simp; omega
    rw [List.drop_eq_nil_of_le (by omega), fnd] at hP
    refine gw l_x ?_
    simp +decide only[go_sem,reduceAdd,reduceMul,reduceSub,l_x]
    rw [← hP]
    rfl
theorem ct135 (s : Sl I64) (y : Int) {G : Nat → Option (List D)} : callP (XG G) TT 100 [sl 1 I s, .int .i64 y] = some (.bool (s.items.any (fun x : I64 => y == x.1))) := by
  refine callP_val T100 rfl (by simp only [go_sem]) ?_
  unfold Tryz.f100
  simp only [Option.getD_some]
  have hc := ix174 (G := G) s y
  rw [← fnd_any (fun x : I64 => y == x.1) s.items 0]
  simp +decide only[go_sem,reduceAdd,reduceMul,reduceSub,hc]
  refine gw hc ?_
  generalize fnd (fun x : I64 => y == x.1) 0 s.items = o at *
  cases o with
  | none =>
    simp only [fndI] at hc
    refine gw hc ?_
    simp +decide only[go_sem,reduceAdd,reduceMul,reduceSub,hc]
    rfl
  | some j =>
    simp only [fndI] at hc
    repeat (first|(with_reducible first|refine q1 ?_|refine q2 ?_|refine q3 ?_|refine q4 ?_|refine q5 ?_|refine q6 ?_|refine q7 ?_|refine q8 ?_|refine q9 ?_|refine q10 ?_|refine q11 ?_|refine q12 (by decide) ?_)|((first|with_reducible refine q13 ?_|((with_reducible refine q14 ?_ ?_);focus exact rfl));intro K hK;simp +decide only[go_sem,reduceAdd,reduceMul,reduceSub,hc,nn_nat];with_reducible refine hK _ ?_;clear hK K)|(with_reducible refine q15 ?_;intro K J hK hJ;simp +decide only[go_sem,reduceAdd,reduceMul,reduceSub,hc,nn_nat];(with_reducible first|refine hK ?_|refine hJ ?_);clear hK hJ K J))
    simp +decide only[go_sem,reduceAdd,reduceMul,reduceSub,hc]
    rfl
end Go.Eng
