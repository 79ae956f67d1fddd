/- A part of the proof: see the last text. -/
import Derived.Test.YtcfmjomniaopcaaDoorR2TblC
set_option linter.unusedSimpArgs false
set_option linter.unusedVariables false
/- Parts of the builder's add. -/
namespace Go.Eng
open Go Go.Proofs
open Nat (reduceAdd reduceMul reduceSub)
set_option maxRecDepth 20000
set_option maxHeartbeats 32000000
attribute [local irreducible] wpI endP
theorem accN_app (b : List (List D)) (tk : List Nat) (k : Nat) (x : D) (xs : List D) : appendD k ⟨b, tk⟩ (.slice (some 0) k []) (x :: xs) = some (accN tk k (x :: xs), ⟨b, accM tk (x :: xs)⟩) := by
  simp [appendD, accN, accM]
/-- The columns, in a box of their own. -/
theorem clone96B (s : Sl Col) (m : Mem) (hs : s.items.length ≤ 100) (h0 : s.items ≠ []) : callR (XG GK) TT 100096 m [sl 6 encCol s] = some (.rsl m.boxes.length 0 s.items.length 6, ⟨m.boxes ++ [flat (s.items.map encCol)], m.toks⟩) := by
  obtain ⟨o, ho⟩ := s
  cases o with
  | none => exact absurd rfl h0
  | some l =>
    have hl : l.length ≤ 100 := hs
    have h0 : l ≠ [] := h0
    have hll : l.length = (l.map encCol).length := by rw [List.length_map]
    show callR (XG GK) TT 100096 m [.slice none 6 (l.map encCol)] = some (.rsl m.boxes.length 0 l.length 6, ⟨m.boxes ++ [flat (l.map encCol)], m.toks⟩)
    rw [hll]
    have hle : ((l.map encCol).length ≤ 16777216) = True := eq_true (by rw [List.length_map]; omega)
    obtain ⟨e, es, he⟩ : ∃ e es, l.map encCol = e :: es := by
      cases l with
      | nil => exact absurd rfl h0
      | cons a r => exact ⟨_, _, rfl⟩
    rw [he] at hle ⊢
    obtain ⟨bx, tk⟩ := m
    have hle2 : (es.length + 1 ≤ 16777216) = True := hle
    refine callR_val T100096 rfl ?_
    unfold Tryd.f96
    simp only [Option.getD_some]
    simp +decide only[go_sem,reduceAdd,reduceMul,reduceSub,hle,hle2,List.length_cons,List.nil_append]
    repeat (first|(with_reducible first|refine q1 ?_|refine q2 ?_|refine q3 ?_|refine q4 ?_|refine q5 ?_|refine q6 ?_|refine q7 ?_|refine q8 ?_|refine q9 ?_|refine q10 ?_|refine q11 ?_|refine q12 (by decide) ?_)|((first|with_reducible refine q13 ?_|((with_reducible refine q14 ?_ ?_);focus exact rfl));intro K hK;simp +decide only[go_sem,reduceAdd,reduceMul,reduceSub,hle,hle2,List.length_cons,List.nil_append];with_reducible refine hK _ ?_;clear hK K)|(with_reducible refine q15 ?_;intro K J hK hJ;simp +decide only[go_sem,reduceAdd,reduceMul,reduceSub,hle,hle2,List.length_cons,List.nil_append];(with_reducible first|refine hK ?_|refine hJ ?_);clear hK hJ K J))
    simp +decide only[go_sem,reduceAdd,reduceMul,reduceSub,hle,hle2,List.length_cons,List.nil_append]
theorem clone98 (v : D) (es : List D) (m : Mem) (hs : es.length ≤ 100) (hv : (v = .nil ∧ es = []) ∨ ∃ id, v = .slice (some (id + 1)) 5 es ∧ es ≠ []) : callR (XG GK) TT 98 m [v] = some (accN m.toks 5 es, ⟨m.boxes, accM m.toks es⟩) := by
  obtain ⟨bx, tk⟩ := m
  rcases hv with ⟨rfl, rfl⟩ | ⟨id, rfl, h0⟩
  · refine callR_val T98 rfl ?_
    unfold Tryd.f98
    simp only [Option.getD_some]
    simp +decide only[go_sem,reduceAdd,reduceMul,reduceSub]
    refine gw trivial ?_
    simp +decide only[go_sem,reduceAdd,reduceMul,reduceSub]
    exact ⟨rfl, rfl⟩
  · have hle : (es.length ≤ 16777216) = True := eq_true (by omega)
    obtain ⟨e, r, rfl⟩ : ∃ e r, es = e :: r := by
      cases es with
      | nil => exact absurd rfl h0
      | cons a r => exact ⟨_, _, rfl⟩
    have ha := accN_app bx tk 5 e r
    have hle2 : (r.length + 1 ≤ 16777216) = True := hle
    refine callR_val T98 rfl ?_
    unfold Tryd.f98
    simp only [Option.getD_some]
    simp +decide only[go_sem,reduceAdd,reduceMul,reduceSub,hle,hle2,ha,List.length_cons]
    repeat (first|(with_reducible first|refine q1 ?_|refine q2 ?_|refine q3 ?_|refine q4 ?_|refine q5 ?_|refine q6 ?_|refine q7 ?_|refine q8 ?_|refine q9 ?_|refine q10 ?_|refine q11 ?_|refine q12 (by decide) ?_)|((first|with_reducible refine q13 ?_|((with_reducible refine q14 ?_ ?_);focus exact rfl));intro K hK;simp +decide only[go_sem,reduceAdd,reduceMul,reduceSub,hle,hle2,ha,List.length_cons];with_reducible refine hK _ ?_;clear hK K)|(with_reducible refine q15 ?_;intro K J hK hJ;simp +decide only[go_sem,reduceAdd,reduceMul,reduceSub,hle,hle2,ha,List.length_cons];(with_reducible first|refine hK ?_|refine hJ ?_);clear hK hJ K J))
    simp +decide only[go_sem,reduceAdd,reduceMul,reduceSub,hle,hle2,ha,List.length_cons]
/-- The closure that compares types. -/
theorem add101 (m : Mem) (i j : Nat) (sD : D) (colsD keysD fgnsD chkD : D) (s : Sl TblC) (t : TblC) (f : Fgn) (b : Bool) (hi : m.boxes[i]? = some [sD]) (hj : m.boxes[j]? = some [.str t.name, colsD, keysD, fgnsD, chkD])
    (h0 : stripF (frzM m m.boxes.length) sD = sl 5 encTblC s) (h1 : stripF (frzM m m.boxes.length) (.agg [.str t.name, colsD, keysD, fgnsD, chkD]) = encTblC t)
    (hc : callP (XG GK) TT 102 [sl 5 encTblC s, encTblC t, encFgn f] = some (.bool b)) : callR (XG GK) TT 101 m [encFgn f, .ptr i 0, .ptr j 0] = some (.bool b, m) := by
  have hc : callR (XG GK) TT 200102 m [sD, .agg [.str t.name, colsD, keysD, fgnsD, chkD], encFgn f] = some (.bool b, m) :=
    callR_frz T102 T200102 (by rw [frzL_cons, frzL_cons, frzL_cons, frzL_nil, h0, h1, strip_Fgn]) (by simp only [go_sem]) hc rfl
  refine callR_val T101 rfl ?_
  unfold Tryd.f101
  simp only [Option.getD_some]
  simp only [encFgn_eq] at hc
  simp +decide only[go_sem,reduceAdd,reduceMul,reduceSub,hi,hj,hc]
  refine gw (an hi (an hj hc)) ?_
  simp +decide only[go_sem,reduceAdd,reduceMul,reduceSub,hi,hj,hc]
end Go.Eng
