/- A part of the proof: see the last text. -/
import Derived.Test.YtcfmjomniaopcaaGreatDoorR2TblC
set_option linter.unusedSimpArgs false
set_option linter.unusedVariables false
/- Parts of the builder's add. -/
namespace Go.Eng
open Go Go.Proofs
open Nat (reduceAdd reduceMul reduceSub)
set_option maxRecDepth 20000
set_option maxHeartbeats 32000000
theorem accN_app (b : List (List D)) (tk : List Nat) (k : Nat) (x : D) (xs : List D) : appendD k ⟨b, tk⟩ (.slice (some 0) k []) (x :: xs) = some (accN tk k (x :: xs), ⟨b, accM tk (x :: xs)⟩) := by
  simp [appendD, accN, accM]
theorem clone96 (s : Sl Col) (m : Mem) (hs : s.items.length ≤ 100) (h0 : s.items ≠ []) : callR (XG GK) TT 17 m [sl 6 encCol s] = some (accN m.toks 6 (s.items.map encCol), ⟨m.boxes, accM m.toks (s.items.map encCol)⟩) := by
  obtain ⟨o, ho⟩ := s
  cases o with
  | none => exact absurd rfl h0
  | some l =>
    have hl : l.length ≤ 100 := hs
    have h0 : l ≠ [] := h0
    show callR (XG GK) TT 17 m [.slice none 6 (l.map encCol)] = some (accN m.toks 6 (l.map encCol), ⟨m.boxes, accM m.toks (l.map encCol)⟩)
    have hle : ((l.map encCol).length ≤ 16777216) = True := eq_true (by rw [List.length_map]; omega)
    obtain ⟨e, es, he⟩ : ∃ e es, l.map encCol = e :: es := by
      cases l with
      | nil => exact absurd rfl h0
      | cons a r => exact ⟨_, _, rfl⟩
    rw [he] at hle ⊢
    obtain ⟨bx, tk⟩ := m
    have ha := accN_app bx tk 6 e es
    have hle2 : (es.length + 1 ≤ 16777216) = True := hle
    refine callR_val T17 rfl ?_
    unfold Tryz.f17
    simp only [Option.getD_some]
    simp +decide only[go_sem,reduceAdd,reduceMul,reduceSub,hle,hle2,ha,List.length_cons]
    repeat (first|(with_reducible first|refine q1 ?_|refine q2 ?_|refine q3 ?_|refine q4 ?_|refine q5 ?_|refine q6 ?_|refine q7 ?_|refine q8 ?_|refine q9 ?_|refine q10 ?_|refine q11 ?_|refine q12 (by decide) ?_)|((first|with_reducible refine q13 ?_|((with_reducible refine q14 ?_ ?_);focus exact rfl));intro K hK;simp +decide only[go_sem,reduceAdd,reduceMul,reduceSub,hle,hle2,ha,List.length_cons];with_reducible refine hK _ ?_;clear hK K)|(with_reducible refine q15 ?_;intro K J hK hJ;simp +decide only[go_sem,reduceAdd,reduceMul,reduceSub,hle,hle2,ha,List.length_cons];(with_reducible first|refine hK ?_|refine hJ ?_);clear hK hJ K J))
    simp +decide only[go_sem,reduceAdd,reduceMul,reduceSub,hle,hle2,ha,List.length_cons]
theorem clone98 (v : D) (es : List D) (m : Mem) (hs : es.length ≤ 100) (hv : (v = .nil ∧ es = []) ∨ ∃ id, v = .slice (some (id + 1)) 5 es ∧ es ≠ []) : callR (XG GK) TT 38 m [v] = some (accN m.toks 5 es, ⟨m.boxes, accM m.toks es⟩) := by
  obtain ⟨bx, tk⟩ := m
  rcases hv with ⟨rfl, rfl⟩ | ⟨id, rfl, h0⟩
  · refine callR_val T38 rfl ?_
    unfold Tryz.f38
    simp only [Option.getD_some]
    simp +decide only[go_sem,reduceAdd,reduceMul,reduceSub]
    refine gw trivial ?_
    simp +decide only[go_sem,reduceAdd,reduceMul,reduceSub]
    exact ⟨rfl, rfl⟩
  · have hle : (es.length ≤ 16777216) = True := eq_true (by omega)
    obtain ⟨e, r, rfl⟩ : ∃ e r, es = e :: r := by
      cases es with
      | nil => exact absurd rfl h0
      | cons a r => exact ⟨_, _, rfl⟩
    have ha := accN_app bx tk 5 e r
    have hle2 : (r.length + 1 ≤ 16777216) = True := hle
    refine callR_val T38 rfl ?_
    unfold Tryz.f38
    simp only [Option.getD_some]
    simp +decide only[go_sem,reduceAdd,reduceMul,reduceSub,hle,hle2,ha,List.length_cons]
    repeat (first|(with_reducible first|refine q1 ?_|refine q2 ?_|refine q3 ?_|refine q4 ?_|refine q5 ?_|refine q6 ?_|refine q7 ?_|refine q8 ?_|refine q9 ?_|refine q10 ?_|refine q11 ?_|refine q12 (by decide) ?_)|((first|with_reducible refine q13 ?_|((with_reducible refine q14 ?_ ?_);focus exact rfl));intro K hK;simp +decide only[go_sem,reduceAdd,reduceMul,reduceSub,hle,hle2,ha,List.length_cons];with_reducible refine hK _ ?_;clear hK K)|(with_reducible refine q15 ?_;intro K J hK hJ;simp +decide only[go_sem,reduceAdd,reduceMul,reduceSub,hle,hle2,ha,List.length_cons];(with_reducible first|refine hK ?_|refine hJ ?_);clear hK hJ K J))
    simp +decide only[go_sem,reduceAdd,reduceMul,reduceSub,hle,hle2,ha,List.length_cons]
/-- The closure that compares types. -/
theorem add101 (m : Mem) (i j : Nat) (sD : D) (colsD keysD fgnsD chkD : D) (s : Sl TblC) (t : TblC) (f : Fgn) (b : Bool) (hi : m.boxes[i]? = some [sD]) (hj : m.boxes[j]? = some [.str t.name, colsD, keysD, fgnsD, chkD])
    (h0 : stripF noR sD = sl 5 encTblC s) (h1 : stripF noR colsD = sl 6 encCol t.cols) (h2 : stripF noR keysD = sl 1 (sl 1 I) t.keys) (h3 : stripF noR fgnsD = sl 3 encFgn t.fgns) (h4 : stripF noR chkD = t.chk.1)
    (hc : callP (XG GK) TT 42 [sl 5 encTblC s, encTblC t, encFgn f] = some (.bool b)) : callR (XG GK) TT 41 m [encFgn f, .ptr i 0, .ptr j 0] = some (.bool b, m) := by
  refine callR_val T41 rfl ?_
  unfold Tryz.f41
  simp only [Option.getD_some]
  simp only [encTblC_eq, encFgn_eq] at hc
  simp +decide only[go_sem,reduceAdd,reduceMul,reduceSub,hi,hj,h0,h1,h2,h3,h4,hc]
  refine gw (an hi (an hj (an h0 (an h1 (an h2 (an h3 (an h4 hc))))))) ?_
  simp +decide only[go_sem,reduceAdd,reduceMul,reduceSub,hi,hj,h0,h1,h2,h3,h4,hc]
end Go.Eng
