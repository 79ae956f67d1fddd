/- A part of the proof: see the last text. -/
import Derived.Test.YtcfmjomniaopcaaDoorKR2Ex2
import Derived.Test.YtcfmjomniaopcaaDoorKEngA2
set_option linter.unusedSimpArgs false
set_option linter.unusedVariables false
/- copyExpr returns the same expression. -/
namespace Go.Eng
open Go Go.Proofs
open Nat (reduceAdd reduceMul reduceSub)
set_option maxRecDepth 20000
set_option maxHeartbeats 32000000
theorem ex_mk (e : Ex) : mkEl 8 (encEx e).cells = encEx e := by
  obtain ⟨r, he, _⟩ := e.open
  rw [he]; rfl
theorem ex_strip (g : Nat → Nat → Nat → Nat → D) (e : Ex) : stripFL g (encEx e).cells = (encEx e).cells := by
  obtain ⟨r, he, _⟩ := e.open
  rw [he]
  simp only [ExR.enc, cells_agg, stripFL_cons, go_sem]
theorem clone92 (s : Sl Ex) (m : Mem) (hs : s.items.length ≤ 100) : callR (XG GK) TT 100092 m [sl 8 encEx s] = some (match s.items with
    | [] => ((match s.isNil with | true => .nil | false => .slice (some 0) 8 []), m)
    | _ :: _ => (.rsl m.boxes.length 0 s.items.length 8, ⟨m.boxes ++ [flat (s.items.map encEx)], m.toks⟩)) := by
  obtain ⟨o, ho⟩ := s
  cases o with
  | none =>
    refine callR_val T100092 rfl ?_
    unfold Tryd.f92
    simp only [Option.getD_some, sl, Sl.items, Sl.isNil]
    simp +decide only[go_sem,reduceAdd,reduceMul,reduceSub]
    refine gw trivial ?_
    simp +decide only[go_sem,reduceAdd,reduceMul,reduceSub]
    exact ⟨rfl, trivial⟩
  | some l =>
    refine callR_val T100092 rfl ?_
    unfold Tryd.f92
    have hl : (l.length ≤ 16777216) = True := eq_true (by simp only [Sl.items, Option.getD_some] at hs; omega)
    simp only [Option.getD_some, sl, Sl.items, Sl.isNil]
    cases l with
    | nil =>
      simp only [List.map_nil]
      simp +decide only[go_sem,reduceAdd,reduceMul,reduceSub,hl,List.length_map]
      repeat (first|(with_reducible first|refine q1 ?_|refine q2 ?_|refine q3 ?_|refine q4 ?_|refine q5 ?_|refine q6 ?_|refine q7 ?_|refine q8 ?_|refine q9 ?_|refine q10 ?_|refine q11 ?_|refine q12 (by decide) ?_)|((first|with_reducible refine q13 ?_|((with_reducible refine q14 ?_ ?_);focus exact rfl));intro K hK;simp +decide only[go_sem,reduceAdd,reduceMul,reduceSub,hl,List.length_map];with_reducible refine hK _ ?_;clear hK K)|(with_reducible refine q15 ?_;intro K J hK hJ;simp +decide only[go_sem,reduceAdd,reduceMul,reduceSub,hl,List.length_map];(with_reducible first|refine hK ?_|refine hJ ?_);clear hK hJ K J))
      simp +decide only[go_sem,reduceAdd,reduceMul,reduceSub,hl,List.length_map]
      exact ⟨rfl, trivial⟩
    | cons a r =>
      simp only [List.map_cons]
      have hl2 : (r.length + 1 ≤ 16777216) = True := hl
      simp +decide only[go_sem,reduceAdd,reduceMul,reduceSub,hl,List.length_map]
      repeat (first|(with_reducible first|refine q1 ?_|refine q2 ?_|refine q3 ?_|refine q4 ?_|refine q5 ?_|refine q6 ?_|refine q7 ?_|refine q8 ?_|refine q9 ?_|refine q10 ?_|refine q11 ?_|refine q12 (by decide) ?_)|((first|with_reducible refine q13 ?_|((with_reducible refine q14 ?_ ?_);focus exact rfl));intro K hK;simp +decide only[go_sem,reduceAdd,reduceMul,reduceSub,hl,List.length_map,hl2,List.length_cons,List.nil_append];with_reducible refine hK _ ?_;clear hK K)|(with_reducible refine q15 ?_;intro K J hK hJ;simp +decide only[go_sem,reduceAdd,reduceMul,reduceSub,hl,List.length_map,hl2,List.length_cons,List.nil_append];(with_reducible first|refine hK ?_|refine hJ ?_);clear hK hJ K J))
      simp +decide only[go_sem,reduceAdd,reduceMul,reduceSub,hl,List.length_map]
end Go.Eng
