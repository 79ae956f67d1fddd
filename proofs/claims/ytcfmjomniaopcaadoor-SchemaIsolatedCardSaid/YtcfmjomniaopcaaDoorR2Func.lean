/- A part of the proof: see the last text. -/
import Derived.Test.YtcfmjomniaopcaaDoorR2Name2
set_option linter.unusedSimpArgs false
set_option linter.unusedVariables false
/- Contracts of the generic functions on slices, for each type of elements (written by gen_funcs.py). -/
namespace Go.Eng
open Go Go.Proofs
open Nat (reduceAdd reduceMul reduceSub)
set_option maxRecDepth 20000
set_option maxHeartbeats 32000000
attribute [local irreducible] wpI endP
theorem fnd_some {α : Type} (p : α → Bool) : ∀ (l : List α) (i k : Nat), fnd p i l = some k → i ≤ k ∧ ∃ x, l[k - i]? = some x ∧ p x = true
  | a :: r, i, k, h => by
    rw [fnd] at h
    cases c : p a
    · rw [c] at h
      obtain ⟨h1, x, h2, h3⟩ := fnd_some p r (i + 1) k h
      refine ⟨by omega, x, ?_, h3⟩
      rw [show k - i = (k - (i + 1)) + 1 by omega]
      exact h2
    · rw [c] at h
      cases h
      exact ⟨Nat.le_refl _, a, by simp, c⟩
theorem fnd_any {α : Type} (p : α → Bool) : ∀ (l : List α) (i : Nat), (fnd p i l).isSome = l.any p
  | [], i => rfl
  | a :: r, i => by
    rw [fnd, List.any_cons]
    cases c : p a
    · simp only [fnd_any p r, Bool.false_or]
    · rfl
theorem not_any {α : Type} (p : α → Bool) (l : List α) : (!l.any fun x => !p x) = l.all p := by
  induction l with
  | nil => rfl
  | cons a r ih => simp only [List.any_cons, List.all_cons, Bool.not_or, Bool.not_not, ih]
theorem at_end {α : Type} (l : List α) (a : α) : (l ++ [a])[l.length]? = some a := by simp

theorem ixf65 (s : Sl Col) (g : Nat) (cap : List D) (m : Mem) (p : Col → Bool) (hg : (g < 100000) = True) (hp : ∀ x ∈ s.items, callR (XG GK) TT g m (encCol x :: cap) = some (.bool (p x), m)) :
    callR (XG GK) TT 65 m [sl 6 encCol s, .func g cap] = some (fndI (fnd p 0 s.items), m) := by
  refine callR_val T65 rfl ?_
  unfold Tryd.f65
  simp only [Option.getD_some]
  have hlt := s.lt
  simp +decide only[go_sem,reduceAdd,reduceMul,reduceSub,hg]
  refine gw hg ?_
  refine wpI_loopC (T := Nat) [0, 1, 7, 8] rfl (by simp +decide only[go_sem,reduceAdd,reduceMul,reduceSub,hg]; exact rfl) (fun k => [(8, .int .i64 (k : Int))]) (fun _ => []) (fun _ => m) (fun k => k ≤ s.items.length ∧ fnd p k (s.items.drop k) = fnd p 0 s.items) (fun k => s.items.length - k) 0 (by simp +decide only[go_sem,reduceAdd,reduceMul,reduceSub,hg] <;> rfl) (by simp) ?_
  rintro k ⟨hk, hP⟩
  by_cases h : k < s.items.length
  · have l_x : ((k : Int) < ((s.items).length : Int)) = True := by simp; omega
    obtain ⟨x, g_x⟩ : ∃ a_, (s.items)[k]? = some a_ := ⟨_, List.getElem?_eq_getElem (by assumption)⟩
    have w_x := wrap_nat k (by omega)
    rw [dropc g_x, fnd] at hP
    have hc := hp x (List.mem_of_getElem? g_x)
    simp only [encCol_eq] at hc
    cases c : (p x)
    · rw [c] at hP
      refine gw (an hg (an l_x (an g_x (an w_x (an hc c))))) ?_
      exact ⟨k + 1, by simp +decide only[go_sem,reduceAdd,reduceMul,reduceSub,hg,l_x,g_x,w_x,hc,c] <;> rfl, ⟨by omega, hP⟩, by omega⟩
    · rw [c] at hP
      refine gw (an hg (an l_x (an g_x (an w_x (an hc c))))) ?_
      simp +decide only[go_sem,reduceAdd,reduceMul,reduceSub,hg,l_x,g_x,w_x,hc,c]
      rw [← hP]
      exact ⟨rfl, trivial⟩
  · have l_x : ((k : Int) < ((s.items).length : Int)) = False := by simp; omega
    rw [List.drop_eq_nil_of_le (by omega), fnd] at hP
    refine gw (an hg l_x) ?_
    simp +decide only[go_sem,reduceAdd,reduceMul,reduceSub,hg,l_x]
    rw [← hP]
    exact ⟨rfl, trivial⟩
theorem ctf166 (s : Sl Col) (g : Nat) (cap : List D) (m : Mem) (p : Col → Bool) (hg : (g < 100000) = True) (hp : ∀ x ∈ s.items, callR (XG GK) TT g m (encCol x :: cap) = some (.bool (p x), m)) :
    callR (XG GK) TT 166 m [sl 6 encCol s, .func g cap] = some (.bool (s.items.any p), m) := by
  refine callR_val T166 rfl ?_
  unfold Tryd.f166
  simp only [Option.getD_some]
  have hc := ixf65 s g cap m p hg hp
  rw [← fnd_any p s.items 0]
  simp +decide only[go_sem,reduceAdd,reduceMul,reduceSub,hg,hc]
  refine gw (an hg hc) ?_
  generalize fnd p 0 s.items = o at *
  cases o with
  | none =>
    simp only [fndI] at hc
    refine gw (an hg hc) ?_
    simp +decide only[go_sem,reduceAdd,reduceMul,reduceSub,hg,hc]
    exact ⟨rfl, trivial⟩
  | some j =>
    simp only [fndI] at hc
    repeat (first|(with_reducible first|refine q1 ?_|refine q2 ?_|refine q3 ?_|refine q4 ?_|refine q5 ?_|refine q6 ?_|refine q7 ?_|refine q8 ?_|refine q9 ?_|refine q10 ?_|refine q11 ?_|refine q12 (by decide) ?_)|((first|with_reducible refine q13 ?_|((with_reducible refine q14 ?_ ?_);focus exact rfl));intro K hK;simp +decide only[go_sem,reduceAdd,reduceMul,reduceSub,hg,hc,nn_nat];with_reducible refine hK _ ?_;clear hK K)|(with_reducible refine q15 ?_;intro K J hK hJ;simp +decide only[go_sem,reduceAdd,reduceMul,reduceSub,hg,hc,nn_nat];(with_reducible first|refine hK ?_|refine hJ ?_);clear hK hJ K J))
    simp +decide only[go_sem,reduceAdd,reduceMul,reduceSub,hg,hc]
    exact ⟨rfl, trivial⟩
theorem alo167 (x : Col) (id : Nat) (g : Nat) (cap : List D) (m : Mem) (b : Bool) (hg : (g < 100000) = True) (hm : m.boxes[id]? = some [.func g cap]) (hc : callR (XG GK) TT g m (encCol x :: cap) = some (.bool b, m)) :
    callR (XG GK) TT 167 m [encCol x, .ptr id 0] = some (.bool (!b), m) := by
  refine callR_val T167 rfl ?_
  unfold Tryd.f167
  simp only [Option.getD_some]
  simp only [encCol_eq] at hc
  simp +decide only[go_sem,reduceAdd,reduceMul,reduceSub,hg,hm,hc]
  refine gw (an hg (an hm hc)) ?_
  simp +decide only[go_sem,reduceAdd,reduceMul,reduceSub,hg,hm,hc]
theorem all124 (s : Sl Col) (g : Nat) (cap : List D) (m : Mem) (p : Col → Bool) (hg : (g < 100000) = True) (hp : ∀ x ∈ s.items, callR (XG GK) TT g ⟨m.boxes ++ [[.func g cap]], m.toks⟩ (encCol x :: cap) = some (.bool (p x), ⟨m.boxes ++ [[.func g cap]], m.toks⟩)) :
    callR (XG GK) TT 124 m [sl 6 encCol s, .func g cap] = some (.bool (s.items.all p), ⟨m.boxes ++ [[.func g cap]], m.toks⟩) := by
  refine callR_val T124 rfl ?_
  unfold Tryd.f124
  simp only [Option.getD_some]
  have hc := ctf166 s 167 [.ptr m.boxes.length 0] ⟨m.boxes ++ [[.func g cap]], m.toks⟩ (fun x => !p x) (eq_true (by decide)) fun x hx => alo167 x m.boxes.length g cap _ (p x) hg (at_end _ _) (hp x hx)
  rw [← not_any p s.items]
  simp +decide only[go_sem,reduceAdd,reduceMul,reduceSub,hg,hc]
  refine gw (an hg hc) ?_
  simp +decide only[go_sem,reduceAdd,reduceMul,reduceSub,hg,hc]
theorem ixf179 (s : Sl (Sl Str)) (g : Nat) (cap : List D) (m : Mem) (p : (Sl Str) → Bool) (hg : (g < 100000) = True) (hp : ∀ x ∈ s.items, callR (XG GK) TT g m ((sl 1 S) x :: cap) = some (.bool (p x), m)) :
    callR (XG GK) TT 179 m [sl 1 (sl 1 S) s, .func g cap] = some (fndI (fnd p 0 s.items), m) := by
  refine callR_val T179 rfl ?_
  unfold Tryd.f179
  simp only [Option.getD_some]
  have hlt := s.lt
  simp +decide only[go_sem,reduceAdd,reduceMul,reduceSub,hg]
  refine gw hg ?_
  refine wpI_loopC (T := Nat) [0, 1, 7, 8] rfl (by simp +decide only[go_sem,reduceAdd,reduceMul,reduceSub,hg]; exact rfl) (fun k => [(8, .int .i64 (k : Int))]) (fun _ => []) (fun _ => m) (fun k => k ≤ s.items.length ∧ fnd p k (s.items.drop k) = fnd p 0 s.items) (fun k => s.items.length - k) 0 (by simp +decide only[go_sem,reduceAdd,reduceMul,reduceSub,hg] <;> rfl) (by simp) ?_
  rintro k ⟨hk, hP⟩
  by_cases h : k < s.items.length
  · have l_x : ((k : Int) < ((s.items).length : Int)) = True := by simp; omega
    obtain ⟨x, g_x⟩ : ∃ a_, (s.items)[k]? = some a_ := ⟨_, List.getElem?_eq_getElem (by assumption)⟩
    have w_x := wrap_nat k (by omega)
    rw [dropc g_x, fnd] at hP
    have hc := hp x (List.mem_of_getElem? g_x)
    cases c : (p x)
    · rw [c] at hP
      refine gw (an hg (an l_x (an g_x (an w_x (an hc c))))) ?_
      exact ⟨k + 1, by simp +decide only[go_sem,reduceAdd,reduceMul,reduceSub,hg,l_x,g_x,w_x,hc,c] <;> rfl, ⟨by omega, hP⟩, by omega⟩
    · rw [c] at hP
      refine gw (an hg (an l_x (an g_x (an w_x (an hc c))))) ?_
      simp +decide only[go_sem,reduceAdd,reduceMul,reduceSub,hg,l_x,g_x,w_x,hc,c]
      rw [← hP]
      exact ⟨rfl, trivial⟩
  · have l_x : ((k : Int) < ((s.items).length : Int)) = False := by simp; omega
    rw [List.drop_eq_nil_of_le (by omega), fnd] at hP
    refine gw (an hg l_x) ?_
    simp +decide only[go_sem,reduceAdd,reduceMul,reduceSub,hg,l_x]
    rw [← hP]
    exact ⟨rfl, trivial⟩
theorem ctf149 (s : Sl (Sl Str)) (g : Nat) (cap : List D) (m : Mem) (p : (Sl Str) → Bool) (hg : (g < 100000) = True) (hp : ∀ x ∈ s.items, callR (XG GK) TT g m ((sl 1 S) x :: cap) = some (.bool (p x), m)) :
    callR (XG GK) TT 149 m [sl 1 (sl 1 S) s, .func g cap] = some (.bool (s.items.any p), m) := by
  refine callR_val T149 rfl ?_
  unfold Tryd.f149
  simp only [Option.getD_some]
  have hc := ixf179 s g cap m p hg hp
  rw [← fnd_any p s.items 0]
  simp +decide only[go_sem,reduceAdd,reduceMul,reduceSub,hg,hc]
  refine gw (an hg hc) ?_
  generalize fnd p 0 s.items = o at *
  cases o with
  | none =>
    simp only [fndI] at hc
    refine gw (an hg hc) ?_
    simp +decide only[go_sem,reduceAdd,reduceMul,reduceSub,hg,hc]
    exact ⟨rfl, trivial⟩
  | some j =>
    simp only [fndI] at hc
    repeat (first|(with_reducible first|refine q1 ?_|refine q2 ?_|refine q3 ?_|refine q4 ?_|refine q5 ?_|refine q6 ?_|refine q7 ?_|refine q8 ?_|refine q9 ?_|refine q10 ?_|refine q11 ?_|refine q12 (by decide) ?_)|((first|with_reducible refine q13 ?_|((with_reducible refine q14 ?_ ?_);focus exact rfl));intro K hK;simp +decide only[go_sem,reduceAdd,reduceMul,reduceSub,hg,hc,nn_nat];with_reducible refine hK _ ?_;clear hK K)|(with_reducible refine q15 ?_;intro K J hK hJ;simp +decide only[go_sem,reduceAdd,reduceMul,reduceSub,hg,hc,nn_nat];(with_reducible first|refine hK ?_|refine hJ ?_);clear hK hJ K J))
    simp +decide only[go_sem,reduceAdd,reduceMul,reduceSub,hg,hc]
    exact ⟨rfl, trivial⟩
theorem alo176 (x : (Sl Str)) (id : Nat) (g : Nat) (cap : List D) (m : Mem) (b : Bool) (hg : (g < 100000) = True) (hm : m.boxes[id]? = some [.func g cap]) (hc : callR (XG GK) TT g m ((sl 1 S) x :: cap) = some (.bool b, m)) :
    callR (XG GK) TT 176 m [(sl 1 S) x, .ptr id 0] = some (.bool (!b), m) := by
  refine callR_val T176 rfl ?_
  unfold Tryd.f176
  simp only [Option.getD_some]
  simp +decide only[go_sem,reduceAdd,reduceMul,reduceSub,hg,hm,hc]
  refine gw (an hg (an hm hc)) ?_
  simp +decide only[go_sem,reduceAdd,reduceMul,reduceSub,hg,hm,hc]
theorem all145 (s : Sl (Sl Str)) (g : Nat) (cap : List D) (m : Mem) (p : (Sl Str) → Bool) (hg : (g < 100000) = True) (hp : ∀ x ∈ s.items, callR (XG GK) TT g ⟨m.boxes ++ [[.func g cap]], m.toks⟩ ((sl 1 S) x :: cap) = some (.bool (p x), ⟨m.boxes ++ [[.func g cap]], m.toks⟩)) :
    callR (XG GK) TT 145 m [sl 1 (sl 1 S) s, .func g cap] = some (.bool (s.items.all p), ⟨m.boxes ++ [[.func g cap]], m.toks⟩) := by
  refine callR_val T145 rfl ?_
  unfold Tryd.f145
  simp only [Option.getD_some]
  have hc := ctf149 s 176 [.ptr m.boxes.length 0] ⟨m.boxes ++ [[.func g cap]], m.toks⟩ (fun x => !p x) (eq_true (by decide)) fun x hx => alo176 x m.boxes.length g cap _ (p x) hg (at_end _ _) (hp x hx)
  rw [← not_any p s.items]
  simp +decide only[go_sem,reduceAdd,reduceMul,reduceSub,hg,hc]
  refine gw (an hg hc) ?_
  simp +decide only[go_sem,reduceAdd,reduceMul,reduceSub,hg,hc]
theorem ixf187 (s : Sl FgS) (g : Nat) (cap : List D) (m : Mem) (p : FgS → Bool) (hg : (g < 100000) = True) (hp : ∀ x ∈ s.items, callR (XG GK) TT g m (encFgS x :: cap) = some (.bool (p x), m)) :
    callR (XG GK) TT 187 m [sl 3 encFgS s, .func g cap] = some (fndI (fnd p 0 s.items), m) := by
  refine callR_val T187 rfl ?_
  unfold Tryd.f187
  simp only [Option.getD_some]
  have hlt := s.lt
  simp +decide only[go_sem,reduceAdd,reduceMul,reduceSub,hg]
  refine gw hg ?_
  refine wpI_loopC (T := Nat) [0, 1, 7, 8] rfl (by simp +decide only[go_sem,reduceAdd,reduceMul,reduceSub,hg]; exact rfl) (fun k => [(8, .int .i64 (k : Int))]) (fun _ => []) (fun _ => m) (fun k => k ≤ s.items.length ∧ fnd p k (s.items.drop k) = fnd p 0 s.items) (fun k => s.items.length - k) 0 (by simp +decide only[go_sem,reduceAdd,reduceMul,reduceSub,hg] <;> rfl) (by simp) ?_
  rintro k ⟨hk, hP⟩
  by_cases h : k < s.items.length
  · have l_x : ((k : Int) < ((s.items).length : Int)) = True := by simp; omega
    obtain ⟨x, g_x⟩ : ∃ a_, (s.items)[k]? = some a_ := ⟨_, List.getElem?_eq_getElem (by assumption)⟩
    have w_x := wrap_nat k (by omega)
    rw [dropc g_x, fnd] at hP
    have hc := hp x (List.mem_of_getElem? g_x)
    simp only [encFgS_eq] at hc
    cases c : (p x)
    · rw [c] at hP
      refine gw (an hg (an l_x (an g_x (an w_x (an hc c))))) ?_
      exact ⟨k + 1, by simp +decide only[go_sem,reduceAdd,reduceMul,reduceSub,hg,l_x,g_x,w_x,hc,c] <;> rfl, ⟨by omega, hP⟩, by omega⟩
    · rw [c] at hP
      refine gw (an hg (an l_x (an g_x (an w_x (an hc c))))) ?_
      simp +decide only[go_sem,reduceAdd,reduceMul,reduceSub,hg,l_x,g_x,w_x,hc,c]
      rw [← hP]
      exact ⟨rfl, trivial⟩
  · have l_x : ((k : Int) < ((s.items).length : Int)) = False := by simp; omega
    rw [List.drop_eq_nil_of_le (by omega), fnd] at hP
    refine gw (an hg l_x) ?_
    simp +decide only[go_sem,reduceAdd,reduceMul,reduceSub,hg,l_x]
    rw [← hP]
    exact ⟨rfl, trivial⟩
theorem ctf177 (s : Sl FgS) (g : Nat) (cap : List D) (m : Mem) (p : FgS → Bool) (hg : (g < 100000) = True) (hp : ∀ x ∈ s.items, callR (XG GK) TT g m (encFgS x :: cap) = some (.bool (p x), m)) :
    callR (XG GK) TT 177 m [sl 3 encFgS s, .func g cap] = some (.bool (s.items.any p), m) := by
  refine callR_val T177 rfl ?_
  unfold Tryd.f177
  simp only [Option.getD_some]
  have hc := ixf187 s g cap m p hg hp
  rw [← fnd_any p s.items 0]
  simp +decide only[go_sem,reduceAdd,reduceMul,reduceSub,hg,hc]
  refine gw (an hg hc) ?_
  generalize fnd p 0 s.items = o at *
  cases o with
  | none =>
    simp only [fndI] at hc
    refine gw (an hg hc) ?_
    simp +decide only[go_sem,reduceAdd,reduceMul,reduceSub,hg,hc]
    exact ⟨rfl, trivial⟩
  | some j =>
    simp only [fndI] at hc
    repeat (first|(with_reducible first|refine q1 ?_|refine q2 ?_|refine q3 ?_|refine q4 ?_|refine q5 ?_|refine q6 ?_|refine q7 ?_|refine q8 ?_|refine q9 ?_|refine q10 ?_|refine q11 ?_|refine q12 (by decide) ?_)|((first|with_reducible refine q13 ?_|((with_reducible refine q14 ?_ ?_);focus exact rfl));intro K hK;simp +decide only[go_sem,reduceAdd,reduceMul,reduceSub,hg,hc,nn_nat];with_reducible refine hK _ ?_;clear hK K)|(with_reducible refine q15 ?_;intro K J hK hJ;simp +decide only[go_sem,reduceAdd,reduceMul,reduceSub,hg,hc,nn_nat];(with_reducible first|refine hK ?_|refine hJ ?_);clear hK hJ K J))
    simp +decide only[go_sem,reduceAdd,reduceMul,reduceSub,hg,hc]
    exact ⟨rfl, trivial⟩
theorem alo178 (x : FgS) (id : Nat) (g : Nat) (cap : List D) (m : Mem) (b : Bool) (hg : (g < 100000) = True) (hm : m.boxes[id]? = some [.func g cap]) (hc : callR (XG GK) TT g m (encFgS x :: cap) = some (.bool b, m)) :
    callR (XG GK) TT 178 m [encFgS x, .ptr id 0] = some (.bool (!b), m) := by
  refine callR_val T178 rfl ?_
  unfold Tryd.f178
  simp only [Option.getD_some]
  simp only [encFgS_eq] at hc
  simp +decide only[go_sem,reduceAdd,reduceMul,reduceSub,hg,hm,hc]
  refine gw (an hg (an hm hc)) ?_
  simp +decide only[go_sem,reduceAdd,reduceMul,reduceSub,hg,hm,hc]
theorem all147 (s : Sl FgS) (g : Nat) (cap : List D) (m : Mem) (p : FgS → Bool) (hg : (g < 100000) = True) (hp : ∀ x ∈ s.items, callR (XG GK) TT g ⟨m.boxes ++ [[.func g cap]], m.toks⟩ (encFgS x :: cap) = some (.bool (p x), ⟨m.boxes ++ [[.func g cap]], m.toks⟩)) :
    callR (XG GK) TT 147 m [sl 3 encFgS s, .func g cap] = some (.bool (s.items.all p), ⟨m.boxes ++ [[.func g cap]], m.toks⟩) := by
  refine callR_val T147 rfl ?_
  unfold Tryd.f147
  simp only [Option.getD_some]
  have hc := ctf177 s 178 [.ptr m.boxes.length 0] ⟨m.boxes ++ [[.func g cap]], m.toks⟩ (fun x => !p x) (eq_true (by decide)) fun x hx => alo178 x m.boxes.length g cap _ (p x) hg (at_end _ _) (hp x hx)
  rw [← not_any p s.items]
  simp +decide only[go_sem,reduceAdd,reduceMul,reduceSub,hg,hc]
  refine gw (an hg hc) ?_
  simp +decide only[go_sem,reduceAdd,reduceMul,reduceSub,hg,hc]
theorem alo156 (x : Fgn) (id : Nat) (g : Nat) (cap : List D) (m : Mem) (b : Bool) (hg : (g < 100000) = True) (hm : m.boxes[id]? = some [.func g cap]) (hc : callR (XG GK) TT g m (encFgn x :: cap) = some (.bool b, m)) :
    callR (XG GK) TT 156 m [encFgn x, .ptr id 0] = some (.bool (!b), m) := by
  refine callR_val T156 rfl ?_
  unfold Tryd.f156
  simp only [Option.getD_some]
  simp only [encFgn_eq] at hc
  simp +decide only[go_sem,reduceAdd,reduceMul,reduceSub,hg,hm,hc]
  refine gw (an hg (an hm hc)) ?_
  simp +decide only[go_sem,reduceAdd,reduceMul,reduceSub,hg,hm,hc]
theorem ixf153 (s : Sl (Sl I64)) (g : Nat) (cap : List D) (m : Mem) (p : (Sl I64) → Bool) (hg : (g < 100000) = True) (hp : ∀ x ∈ s.items, callR (XG GK) TT g m ((sl 1 I) x :: cap) = some (.bool (p x), m)) :
    callR (XG GK) TT 153 m [sl 1 (sl 1 I) s, .func g cap] = some (fndI (fnd p 0 s.items), m) := by
  refine callR_val T153 rfl ?_
  unfold Tryd.f153
  simp only [Option.getD_some]
  have hlt := s.lt
  simp +decide only[go_sem,reduceAdd,reduceMul,reduceSub,hg]
  refine gw hg ?_
  refine wpI_loopC (T := Nat) [0, 1, 7, 8] rfl (by simp +decide only[go_sem,reduceAdd,reduceMul,reduceSub,hg]; exact rfl) (fun k => [(8, .int .i64 (k : Int))]) (fun _ => []) (fun _ => m) (fun k => k ≤ s.items.length ∧ fnd p k (s.items.drop k) = fnd p 0 s.items) (fun k => s.items.length - k) 0 (by simp +decide only[go_sem,reduceAdd,reduceMul,reduceSub,hg] <;> rfl) (by simp) ?_
  rintro k ⟨hk, hP⟩
  by_cases h : k < s.items.length
  · have l_x : ((k : Int) < ((s.items).length : Int)) = True := by simp; omega
    obtain ⟨x, g_x⟩ : ∃ a_, (s.items)[k]? = some a_ := ⟨_, List.getElem?_eq_getElem (by assumption)⟩
    have w_x := wrap_nat k (by omega)
    rw [dropc g_x, fnd] at hP
    have hc := hp x (List.mem_of_getElem? g_x)
    cases c : (p x)
    · rw [c] at hP
      refine gw (an hg (an l_x (an g_x (an w_x (an hc c))))) ?_
      exact ⟨k + 1, by simp +decide only[go_sem,reduceAdd,reduceMul,reduceSub,hg,l_x,g_x,w_x,hc,c] <;> rfl, ⟨by omega, hP⟩, by omega⟩
    · rw [c] at hP
      refine gw (an hg (an l_x (an g_x (an w_x (an hc c))))) ?_
      simp +decide only[go_sem,reduceAdd,reduceMul,reduceSub,hg,l_x,g_x,w_x,hc,c]
      rw [← hP]
      exact ⟨rfl, trivial⟩
  · have l_x : ((k : Int) < ((s.items).length : Int)) = False := by simp; omega
    rw [List.drop_eq_nil_of_le (by omega), fnd] at hP
    refine gw (an hg l_x) ?_
    simp +decide only[go_sem,reduceAdd,reduceMul,reduceSub,hg,l_x]
    rw [← hP]
    exact ⟨rfl, trivial⟩
theorem ix184 (s : Sl Str) (y : Str) {G : Nat → Option (List D)} : callP (XG G) TT 184 [sl 1 S s, .str y] = some (fndI (fnd (fun x => y == x) 0 s.items)) := by
  generalize hp : (fun x => y == x) = p
  have hp : ∀ x, p x = (y == x) := fun x => by rw [← hp]
  refine callP_val T184 rfl (by simp only [go_sem]) ?_
  unfold Tryd.f184
  simp only [Option.getD_some]
  have hlt := s.lt
  simp +decide only[go_sem,reduceAdd,reduceMul,reduceSub]
  refine gw trivial ?_
  refine wpI_loopC (T := Nat) [0, 1, 7, 8] rfl (by simp +decide only[go_sem,reduceAdd,reduceMul,reduceSub]; exact rfl) (fun k => [(8, .int .i64 (k : Int))]) (fun _ => []) (fun _ => ⟨[], []⟩) (fun k => k ≤ s.items.length ∧ fnd p k (s.items.drop k) = fnd p 0 s.items) (fun k => s.items.length - k) 0 (by simp +decide only[go_sem,reduceAdd,reduceMul,reduceSub] <;> rfl) (by simp) ?_
  rintro k ⟨hk, hP⟩
  by_cases h : k < s.items.length
  · have l_x : ((k : Int) < ((s.items).length : Int)) = True := by simp; omega
    obtain ⟨x, g_x⟩ : ∃ a_, (s.items)[k]? = some a_ := ⟨_, List.getElem?_eq_getElem (by assumption)⟩
    have w_x := wrap_nat k (by omega)
    rw [dropc g_x, fnd, hp] at hP
    cases c : (y == x)
    · rw [c] at hP
      refine gw (an l_x (an g_x (an w_x c))) ?_
      exact ⟨k + 1, by simp +decide only[go_sem,reduceAdd,reduceMul,reduceSub,l_x,g_x,w_x,c] <;> rfl, ⟨by omega, hP⟩, by omega⟩
    · rw [c] at hP
      refine gw (an l_x (an g_x (an w_x c))) ?_
      simp +decide only[go_sem,reduceAdd,reduceMul,reduceSub,l_x,g_x,w_x,c]
      rw [← hP]
      rfl
  · have l_x : ((k : Int) < ((s.items).length : Int)) = False := by simp; omega
    rw [List.drop_eq_nil_of_le (by omega), fnd] at hP
    refine gw l_x ?_
    simp +decide only[go_sem,reduceAdd,reduceMul,reduceSub,l_x]
    rw [← hP]
    rfl
theorem ct168 (s : Sl Str) (y : Str) {G : Nat → Option (List D)} : callP (XG G) TT 168 [sl 1 S s, .str y] = some (.bool (s.items.any (fun x => y == x))) := by
  refine callP_val T168 rfl (by simp only [go_sem]) ?_
  unfold Tryd.f168
  simp only [Option.getD_some]
  have hc := ix184 (G := G) s y
  rw [← fnd_any (fun x => y == x) s.items 0]
  simp +decide only[go_sem,reduceAdd,reduceMul,reduceSub,hc]
  refine gw hc ?_
  generalize fnd (fun x => y == x) 0 s.items = o at *
  cases o with
  | none =>
    simp only [fndI] at hc
    refine gw hc ?_
    simp +decide only[go_sem,reduceAdd,reduceMul,reduceSub,hc]
    rfl
  | some j =>
    simp only [fndI] at hc
    repeat (first|(with_reducible first|refine q1 ?_|refine q2 ?_|refine q3 ?_|refine q4 ?_|refine q5 ?_|refine q6 ?_|refine q7 ?_|refine q8 ?_|refine q9 ?_|refine q10 ?_|refine q11 ?_|refine q12 (by decide) ?_)|((first|with_reducible refine q13 ?_|((with_reducible refine q14 ?_ ?_);focus exact rfl));intro K hK;simp +decide only[go_sem,reduceAdd,reduceMul,reduceSub,hc,nn_nat];with_reducible refine hK _ ?_;clear hK K)|(with_reducible refine q15 ?_;intro K J hK hJ;simp +decide only[go_sem,reduceAdd,reduceMul,reduceSub,hc,nn_nat];(with_reducible first|refine hK ?_|refine hJ ?_);clear hK hJ K J))
    simp +decide only[go_sem,reduceAdd,reduceMul,reduceSub,hc]
    rfl
end Go.Eng
