/- A part of the proof: see the last text. -/
import Derived.Test.YtcfmjomniaopcaaGreatDoorR2Low
set_option linter.unusedSimpArgs false
set_option linter.unusedVariables false
/- Keywords: binary search in the sorted list. -/
namespace Go.Eng
open Go Go.Proofs
open Nat (reduceAdd reduceMul reduceSub)
set_option maxRecDepth 20000
set_option maxHeartbeats 32000000
variable {G : Nat → Option (List D)}
theorem nan191 (a : Str) : callP (XG G) TT 108 [.str a] = some (.bool false) := by
  refine callP_val T108 rfl (by simp only [go_sem]) ?_
  unfold Tryz.f108
  simp only [Option.getD_some]
  simp +decide only[go_sem,reduceAdd,reduceMul,reduceSub]
  refine gw trivial ?_
  simp +decide only[go_sem,reduceAdd,reduceMul,reduceSub]
theorem nan189 (a : Str) : callP (XG G) TT 105 [.str a] = some (.bool false) := by
  refine callP_val T105 rfl (by simp only [go_sem]) ?_
  unfold Tryz.f105
  simp only [Option.getD_some]
  simp +decide only[go_sem,reduceAdd,reduceMul,reduceSub]
  refine gw trivial ?_
  simp +decide only[go_sem,reduceAdd,reduceMul,reduceSub]
theorem less188 (a b : Str) : callP (XG G) TT 104 [.str a, .str b] = some (.bool (Op.bytesLess a b)) := by
  refine callP_val T104 rfl (by simp only [go_sem]) ?_
  unfold Tryz.f104
  simp only [Option.getD_some]
  simp +decide only[go_sem,reduceAdd,reduceMul,reduceSub,nan191]
  repeat (first|(with_reducible first|refine q1 ?_|refine q2 ?_|refine q3 ?_|refine q4 ?_|refine q5 ?_|refine q6 ?_|refine q7 ?_|refine q8 ?_|refine q9 ?_|refine q10 ?_|refine q11 ?_|refine q12 (by decide) ?_)|((first|with_reducible refine q13 ?_|((with_reducible refine q14 ?_ ?_);focus exact rfl));intro K hK;simp +decide only[go_sem,reduceAdd,reduceMul,reduceSub,nan191];with_reducible refine hK _ ?_;clear hK K)|(with_reducible refine q15 ?_;intro K J hK hJ;simp +decide only[go_sem,reduceAdd,reduceMul,reduceSub,nan191];(with_reducible first|refine hK ?_|refine hJ ?_);clear hK hJ K J))
  simp +decide only[go_sem,reduceAdd,reduceMul,reduceSub,nan191]
def SortedS (l : List Str) : Prop := ∀ (i j : Nat) (x y : Str), i < j → l[i]? = some x → l[j]? = some y → Op.bytesLess x y = true
theorem search182 (l : List Str) (u : Str) (hn : l.length < 1000) (hs : SortedS l) (hi : ∀ x : Str, Op.bytesLess x x = false) (h5 : ∀ (i j : Nat) (x y : Str), i < j → l[i]? = some x → l[j]? = some y → Op.bytesLess y u = true → Op.bytesLess x u = true) : ∃ v, callP (XG G) TT 97 [.slice none 1 (l.map .str), .str u] = some v ∧ ∃ n b, v = .tuple [n, .bool b] ∧ (b = true ↔ u ∈ l) := by
  refine callP_body T97 rfl (by simp only [go_sem, stripFL_map D.str fun _ => rfl]) ?_
  unfold Tryz.f97
  simp only [Option.getD_some]
  simp +decide only[go_sem,reduceAdd,reduceMul,reduceSub,less188,nan189,List.length_map]
  repeat (first|(with_reducible first|refine q1 ?_|refine q2 ?_|refine q3 ?_|refine q4 ?_|refine q5 ?_|refine q6 ?_|refine q7 ?_|refine q8 ?_|refine q9 ?_|refine q10 ?_|refine q11 ?_|refine q12 (by decide) ?_)|((first|with_reducible refine q13 ?_|((with_reducible refine q14 ?_ ?_);focus exact rfl));intro K hK;simp +decide only[go_sem,reduceAdd,reduceMul,reduceSub,less188,nan189,List.length_map];with_reducible refine hK _ ?_;clear hK K)|(with_reducible refine q15 ?_;intro K J hK hJ;simp +decide only[go_sem,reduceAdd,reduceMul,reduceSub,less188,nan189,List.length_map];(with_reducible first|refine hK ?_|refine hJ ?_);clear hK hJ K J))
  refine wpI_loopC (T := Nat × Nat) [0, 1, 6, 7, 8] rfl (by simp +decide only[go_sem,reduceAdd,reduceMul,reduceSub,less188,nan189,List.length_map]; exact rfl) (fun p => [(7, .int .i64 (p.1 : Int)), (8, .int .i64 (p.2 : Int))]) (fun _ => []) (fun _ => ⟨[], []⟩) (fun p => p.1 ≤ p.2 ∧ p.2 ≤ l.length ∧ (∀ i x, i < p.1 → l[i]? = some x → Op.bytesLess x u = true) ∧ (∀ i x, p.2 ≤ i → l[i]? = some x → Op.bytesLess x u = false)) (fun p => p.2 - p.1) (0, l.length) (by simp +decide only[go_sem,reduceAdd,reduceMul,reduceSub,less188,nan189,List.length_map] <;> rfl) (by exact ⟨Nat.zero_le _, Nat.le_refl _, fun i x h => absurd h (Nat.not_lt_zero _), fun i x h h2 => by rw [List.getElem?_eq_none h] at h2; cases h2⟩) ?_
  rintro ⟨lo, hi'⟩ ⟨h1, h2, h3, h4⟩
  simp only at h1 h2 h3 h4 ⊢
  by_cases h : lo < hi'
  · have hc : ((lo : Int) < (hi' : Int)) = True := eq_true (by omega)
    have w1 : IntKind.i64.wrap ((lo : Int) + (hi' : Int)) = ((lo + hi' : Nat) : Int) := by rw [wrap_fit _ (by omega)]; omega
    have w2 : IntKind.u64.wrap ((lo + hi' : Nat) : Int) = ((lo + hi' : Nat) : Int) := by rw [wrap_u64']; omega
    have w3 : ((lo + hi' : Nat) : Int).fdiv (2 ^ min (Int.toNat 1) 64) = (((lo + hi') / 2 : Nat) : Int) := by
      show ((lo + hi' : Nat) : Int).fdiv 2 = _
      rw [Int.fdiv_eq_ediv_of_nonneg _ (by omega)]; rfl
    have w4 : IntKind.i64.wrap (((lo + hi') / 2 : Nat) : Int) = (((lo + hi') / 2 : Nat) : Int) := wrap_fit _ (by omega)
    have w5 := wrap_nat ((lo + hi') / 2) (by omega)
    have hm : (lo + hi') / 2 < l.length := by omega
    obtain ⟨x, hx⟩ : ∃ x, l[(lo + hi') / 2]? = some x := ⟨_, List.getElem?_eq_getElem hm⟩
    have hx' : (l.map D.str)[(lo + hi') / 2]? = some (D.str x) := by simp [hx]
    have hlo : lo ≤ (lo + hi') / 2 := by omega
    have hhi : (lo + hi') / 2 < hi' := by omega
    generalize (lo + hi') / 2 = md at *
    repeat (first|(with_reducible first|refine q1 ?_|refine q2 ?_|refine q3 ?_|refine q4 ?_|refine q5 ?_|refine q6 ?_|refine q7 ?_|refine q8 ?_|refine q9 ?_|refine q10 ?_|refine q11 ?_|refine q12 (by decide) ?_)|((first|with_reducible refine q13 ?_|((with_reducible refine q14 ?_ ?_);focus exact rfl));intro K hK;simp +decide only[go_sem,reduceAdd,reduceMul,reduceSub,less188,nan189,List.length_map,hc,w1,w2,w3,w4,w5,hx'];with_reducible refine hK _ ?_;clear hK K)|(with_reducible refine q15 ?_;intro K J hK hJ;simp +decide only[go_sem,reduceAdd,reduceMul,reduceSub,less188,nan189,List.length_map,hc,w1,w2,w3,w4,w5,hx'];(with_reducible first|refine hK ?_|refine hJ ?_);clear hK hJ K J))
    cases c : (Op.bytesLess x u)
    · repeat (first|(with_reducible first|refine q1 ?_|refine q2 ?_|refine q3 ?_|refine q4 ?_|refine q5 ?_|refine q6 ?_|refine q7 ?_|refine q8 ?_|refine q9 ?_|refine q10 ?_|refine q11 ?_|refine q12 (by decide) ?_)|((first|with_reducible refine q13 ?_|((with_reducible refine q14 ?_ ?_);focus exact rfl));intro K hK;simp +decide only[go_sem,reduceAdd,reduceMul,reduceSub,less188,nan189,List.length_map,hc,w1,w2,w3,w4,w5,hx',c];with_reducible refine hK _ ?_;clear hK K)|(with_reducible refine q15 ?_;intro K J hK hJ;simp +decide only[go_sem,reduceAdd,reduceMul,reduceSub,less188,nan189,List.length_map,hc,w1,w2,w3,w4,w5,hx',c];(with_reducible first|refine hK ?_|refine hJ ?_);clear hK hJ K J))
      refine ⟨(lo, md), by simp +decide only[go_sem,reduceAdd,reduceMul,reduceSub,less188,nan189,List.length_map,hc,w1,w2,w3,w4,w5,hx',c] <;> rfl, ⟨by simp only; omega, by simp only; omega, h3, fun i y hi1 hy => ?_⟩, by simp only; omega⟩
      simp only at hi1
      by_cases e : i = md
      · subst e; rw [hx] at hy; cases hy; exact c
      · cases c2 : Op.bytesLess y u
        · rfl
        · exact absurd (h5 _ _ _ _ (by omega) hx hy c2) (by rw [c]; decide)
    · repeat (first|(with_reducible first|refine q1 ?_|refine q2 ?_|refine q3 ?_|refine q4 ?_|refine q5 ?_|refine q6 ?_|refine q7 ?_|refine q8 ?_|refine q9 ?_|refine q10 ?_|refine q11 ?_|refine q12 (by decide) ?_)|((first|with_reducible refine q13 ?_|((with_reducible refine q14 ?_ ?_);focus exact rfl));intro K hK;simp +decide only[go_sem,reduceAdd,reduceMul,reduceSub,less188,nan189,List.length_map,hc,w1,w2,w3,w4,w5,hx',c];with_reducible refine hK _ ?_;clear hK K)|(with_reducible refine q15 ?_;intro K J hK hJ;simp +decide only[go_sem,reduceAdd,reduceMul,reduceSub,less188,nan189,List.length_map,hc,w1,w2,w3,w4,w5,hx',c];(with_reducible first|refine hK ?_|refine hJ ?_);clear hK hJ K J))
      refine ⟨(md + 1, hi'), by simp +decide only[go_sem,reduceAdd,reduceMul,reduceSub,less188,nan189,List.length_map,hc,w1,w2,w3,w4,w5,hx',c] <;> rfl, ⟨by simp only; omega, h2, fun i y hi1 hy => ?_, h4⟩, by simp only; omega⟩
      simp only at hi1
      by_cases e : i = md
      · subst e; rw [hx] at hy; cases hy; exact c
      · exact h5 _ _ _ _ (by omega) hy hx c
  · obtain rfl : lo = hi' := by omega
    have hc : ((lo : Int) < (lo : Int)) = False := eq_false (by omega)
    by_cases hl : lo < l.length
    · have hl' : ((lo : Int) < (l.length : Int)) = True := eq_true (by omega)
      obtain ⟨x, hx⟩ : ∃ x, l[lo]? = some x := ⟨_, List.getElem?_eq_getElem hl⟩
      have hx' : (l.map D.str)[lo]? = some (D.str x) := by simp [hx]
      repeat (first|(with_reducible first|refine q1 ?_|refine q2 ?_|refine q3 ?_|refine q4 ?_|refine q5 ?_|refine q6 ?_|refine q7 ?_|refine q8 ?_|refine q9 ?_|refine q10 ?_|refine q11 ?_|refine q12 (by decide) ?_)|((first|with_reducible refine q13 ?_|((with_reducible refine q14 ?_ ?_);focus exact rfl));intro K hK;simp +decide only[go_sem,reduceAdd,reduceMul,reduceSub,less188,nan189,List.length_map,hc,hl',hx'];with_reducible refine hK _ ?_;clear hK K)|(with_reducible refine q15 ?_;intro K J hK hJ;simp +decide only[go_sem,reduceAdd,reduceMul,reduceSub,less188,nan189,List.length_map,hc,hl',hx'];(with_reducible first|refine hK ?_|refine hJ ?_);clear hK hJ K J))
      cases c : (x == u)
      · repeat (first|(with_reducible first|refine q1 ?_|refine q2 ?_|refine q3 ?_|refine q4 ?_|refine q5 ?_|refine q6 ?_|refine q7 ?_|refine q8 ?_|refine q9 ?_|refine q10 ?_|refine q11 ?_|refine q12 (by decide) ?_)|((first|with_reducible refine q13 ?_|((with_reducible refine q14 ?_ ?_);focus exact rfl));intro K hK;simp +decide only[go_sem,reduceAdd,reduceMul,reduceSub,less188,nan189,List.length_map,hc,hl',hx',c];with_reducible refine hK _ ?_;clear hK K)|(with_reducible refine q15 ?_;intro K J hK hJ;simp +decide only[go_sem,reduceAdd,reduceMul,reduceSub,less188,nan189,List.length_map,hc,hl',hx',c];(with_reducible first|refine hK ?_|refine hJ ?_);clear hK hJ K J))
        simp +decide only[go_sem,reduceAdd,reduceMul,reduceSub,less188,nan189,List.length_map,hc,hl',hx',c]
        refine ⟨_, _, rfl, ⟨fun h => by (first | cases h | simp at h), fun hm => ?_⟩⟩
        obtain ⟨j, hj⟩ := List.getElem?_of_mem hm
        rcases Nat.lt_trichotomy j lo with h | h | h
        · exact absurd (h3 j u h hj) (by rw [hi]; decide)
        · subst h; rw [hx] at hj; cases hj; simp at c
        · exact absurd (hs _ _ _ _ h hx hj) (by rw [h4 lo x (Nat.le_refl _) hx]; decide)
      · repeat (first|(with_reducible first|refine q1 ?_|refine q2 ?_|refine q3 ?_|refine q4 ?_|refine q5 ?_|refine q6 ?_|refine q7 ?_|refine q8 ?_|refine q9 ?_|refine q10 ?_|refine q11 ?_|refine q12 (by decide) ?_)|((first|with_reducible refine q13 ?_|((with_reducible refine q14 ?_ ?_);focus exact rfl));intro K hK;simp +decide only[go_sem,reduceAdd,reduceMul,reduceSub,less188,nan189,List.length_map,hc,hl',hx',c];with_reducible refine hK _ ?_;clear hK K)|(with_reducible refine q15 ?_;intro K J hK hJ;simp +decide only[go_sem,reduceAdd,reduceMul,reduceSub,less188,nan189,List.length_map,hc,hl',hx',c];(with_reducible first|refine hK ?_|refine hJ ?_);clear hK hJ K J))
        simp +decide only[go_sem,reduceAdd,reduceMul,reduceSub,less188,nan189,List.length_map,hc,hl',hx',c]
        exact ⟨_, _, rfl, ⟨fun _ => by rw [← eq_of_beq c]; exact List.mem_of_getElem? hx, fun _ => rfl⟩⟩
    · have hl' : ((lo : Int) < (l.length : Int)) = False := eq_false (by omega)
      repeat (first|(with_reducible first|refine q1 ?_|refine q2 ?_|refine q3 ?_|refine q4 ?_|refine q5 ?_|refine q6 ?_|refine q7 ?_|refine q8 ?_|refine q9 ?_|refine q10 ?_|refine q11 ?_|refine q12 (by decide) ?_)|((first|with_reducible refine q13 ?_|((with_reducible refine q14 ?_ ?_);focus exact rfl));intro K hK;simp +decide only[go_sem,reduceAdd,reduceMul,reduceSub,less188,nan189,List.length_map,hc,hl'];with_reducible refine hK _ ?_;clear hK K)|(with_reducible refine q15 ?_;intro K J hK hJ;simp +decide only[go_sem,reduceAdd,reduceMul,reduceSub,less188,nan189,List.length_map,hc,hl'];(with_reducible first|refine hK ?_|refine hJ ?_);clear hK hJ K J))
      simp +decide only[go_sem,reduceAdd,reduceMul,reduceSub,less188,nan189,List.length_map,hc]
      refine ⟨_, _, rfl, ⟨fun h => by (first | cases h | simp at h), fun hm => ?_⟩⟩
      obtain ⟨j, hj⟩ := List.getElem?_of_mem hm
      have := (List.getElem?_eq_some_iff.1 hj).1
      exact absurd (h3 j u (by omega) hj) (by rw [hi]; decide)
end Go.Eng
