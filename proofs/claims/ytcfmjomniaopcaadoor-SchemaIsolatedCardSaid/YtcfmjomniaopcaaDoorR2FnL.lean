/- A part of the proof: see the last text. -/
import Derived.Test.YtcfmjomniaopcaaDoorR2TblC
set_option linter.unusedSimpArgs false
set_option linter.unusedVariables false
/- Foreign keys in a slice that may still be appended to. -/
namespace Go.Eng
open Go Go.Proofs
open Nat (reduceAdd reduceMul reduceSub)
set_option maxRecDepth 20000
set_option maxHeartbeats 32000000
attribute [local irreducible] wpI endP
theorem ixf180L (s : Sl Fgn) (d : D) (hd : Like 3 encFgn s d) (g : Nat) (cap : List D) (m : Mem) (p : Fgn → Bool) (hg : (g < 100000) = True) (hp : ∀ x ∈ s.items, callR (XG GK) TT g m (encFgn x :: cap) = some (.bool (p x), m)) :
    callR (XG GK) TT 180 m [d, .func g cap] = some (fndI (fnd p 0 s.items), m) := by
  refine callR_val T180 rfl ?_
  unfold Tryd.f180
  simp only [Option.getD_some]
  have hlt := s.lt
  have hd1 := hd.len
  have hd2 := hd.idx
  have hd3 := hd.ok
  have hd4 := hd.cells
  simp +decide only[go_sem,reduceAdd,reduceMul,reduceSub,hd1,hd2,hd3,hd4,hg]
  refine gw (an hd1 (an hd2 (an hd3 (an hd4 hg)))) ?_
  refine wpI_loopC (T := Nat) [0, 1, 7, 8] rfl (by simp +decide only[go_sem,reduceAdd,reduceMul,reduceSub,hd1,hd2,hd3,hd4,hg]; exact rfl) (fun k => [(8, .int .i64 (k : Int))]) (fun _ => []) (fun _ => m) (fun k => k ≤ s.items.length ∧ fnd p k (s.items.drop k) = fnd p 0 s.items) (fun k => s.items.length - k) 0 (by simp +decide only[go_sem,reduceAdd,reduceMul,reduceSub,hd1,hd2,hd3,hd4,hg] <;> rfl) (by simp) ?_
  rintro k ⟨hk, hP⟩
  by_cases h : k < s.items.length
  · have l_x : ((k : Int) < ((s.items).length : Int)) = True := by simp; omega
    obtain ⟨x, g_x⟩ : ∃ a_, (s.items)[k]? = some a_ := ⟨_, List.getElem?_eq_getElem (by assumption)⟩
    have w_x := wrap_nat k (by omega)
    rw [dropc g_x, fnd] at hP
    have hc := hp x (List.mem_of_getElem? g_x)
    simp only [encFgn_eq] at hc
    cases c : (p x)
    · rw [c] at hP
      refine gw (an hd1 (an hd2 (an hd3 (an hd4 (an hg (an l_x (an g_x (an w_x (an hc c))))))))) ?_
      exact ⟨k + 1, by simp +decide only[go_sem,reduceAdd,reduceMul,reduceSub,hd1,hd2,hd3,hd4,hg,l_x,g_x,w_x,hc,c] <;> rfl, ⟨by omega, hP⟩, by omega⟩
    · rw [c] at hP
      refine gw (an hd1 (an hd2 (an hd3 (an hd4 (an hg (an l_x (an g_x (an w_x (an hc c))))))))) ?_
      simp +decide only[go_sem,reduceAdd,reduceMul,reduceSub,hd1,hd2,hd3,hd4,hg,l_x,g_x,w_x,hc,c]
      rw [← hP]
      exact ⟨rfl, trivial⟩
  · have l_x : ((k : Int) < ((s.items).length : Int)) = False := by simp; omega
    rw [List.drop_eq_nil_of_le (by omega), fnd] at hP
    refine gw (an hd1 (an hd2 (an hd3 (an hd4 (an hg l_x))))) ?_
    simp +decide only[go_sem,reduceAdd,reduceMul,reduceSub,hd1,hd2,hd3,hd4,hg,l_x]
    rw [← hP]
    exact ⟨rfl, trivial⟩
theorem ctf155L (s : Sl Fgn) (d : D) (hd : Like 3 encFgn s d) (g : Nat) (cap : List D) (m : Mem) (p : Fgn → Bool) (hg : (g < 100000) = True) (hp : ∀ x ∈ s.items, callR (XG GK) TT g m (encFgn x :: cap) = some (.bool (p x), m)) :
    callR (XG GK) TT 155 m [d, .func g cap] = some (.bool (s.items.any p), m) := by
  refine callR_val T155 rfl ?_
  unfold Tryd.f155
  simp only [Option.getD_some]
  have hc := ixf180L s d hd g cap m p hg hp
  rw [← fnd_any p s.items 0]
  have hd1 := hd.len
  have hd2 := hd.idx
  have hd3 := hd.ok
  have hd4 := hd.cells
  simp +decide only[go_sem,reduceAdd,reduceMul,reduceSub,hd1,hd2,hd3,hd4,hg,hc]
  refine gw (an hd1 (an hd2 (an hd3 (an hd4 (an hg hc))))) ?_
  generalize fnd p 0 s.items = o at *
  cases o with
  | none =>
    simp only [fndI] at hc
    refine gw (an hd1 (an hd2 (an hd3 (an hd4 (an hg hc))))) ?_
    simp +decide only[go_sem,reduceAdd,reduceMul,reduceSub,hd1,hd2,hd3,hd4,hg,hc]
    exact ⟨rfl, trivial⟩
  | some j =>
    simp only [fndI] at hc
    repeat (first|(with_reducible first|refine q1 ?_|refine q2 ?_|refine q3 ?_|refine q4 ?_|refine q5 ?_|refine q6 ?_|refine q7 ?_|refine q8 ?_|refine q9 ?_|refine q10 ?_|refine q11 ?_|refine q12 (by decide) ?_)|((first|with_reducible refine q13 ?_|((with_reducible refine q14 ?_ ?_);focus exact rfl));intro K hK;simp +decide only[go_sem,reduceAdd,reduceMul,reduceSub,hd1,hd2,hd3,hd4,hg,hc,nn_nat];with_reducible refine hK _ ?_;clear hK K)|(with_reducible refine q15 ?_;intro K J hK hJ;simp +decide only[go_sem,reduceAdd,reduceMul,reduceSub,hd1,hd2,hd3,hd4,hg,hc,nn_nat];(with_reducible first|refine hK ?_|refine hJ ?_);clear hK hJ K J))
    simp +decide only[go_sem,reduceAdd,reduceMul,reduceSub,hd1,hd2,hd3,hd4,hg,hc]
    exact ⟨rfl, trivial⟩
theorem all100L (s : Sl Fgn) (d : D) (hd : Like 3 encFgn s d) (g : Nat) (cap : List D) (m : Mem) (p : Fgn → Bool) (hg : (g < 100000) = True) (hp : ∀ x ∈ s.items, callR (XG GK) TT g ⟨m.boxes ++ [[.func g cap]], m.toks⟩ (encFgn x :: cap) = some (.bool (p x), ⟨m.boxes ++ [[.func g cap]], m.toks⟩)) :
    callR (XG GK) TT 100 m [d, .func g cap] = some (.bool (s.items.all p), ⟨m.boxes ++ [[.func g cap]], m.toks⟩) := by
  refine callR_val T100 rfl ?_
  unfold Tryd.f100
  simp only [Option.getD_some]
  have hc := ctf155L s d hd 156 [.ptr m.boxes.length 0] ⟨m.boxes ++ [[.func g cap]], m.toks⟩ (fun x => !p x) (eq_true (by decide)) fun x hx => alo156 x m.boxes.length g cap _ (p x) hg (at_end _ _) (hp x hx)
  rw [← not_any p s.items]
  have hd1 := hd.len
  have hd2 := hd.idx
  have hd3 := hd.ok
  have hd4 := hd.cells
  simp +decide only[go_sem,reduceAdd,reduceMul,reduceSub,hd1,hd2,hd3,hd4,hg,hc]
  refine gw (an hd1 (an hd2 (an hd3 (an hd4 (an hg hc))))) ?_
  simp +decide only[go_sem,reduceAdd,reduceMul,reduceSub,hd1,hd2,hd3,hd4,hg,hc]
end Go.Eng
