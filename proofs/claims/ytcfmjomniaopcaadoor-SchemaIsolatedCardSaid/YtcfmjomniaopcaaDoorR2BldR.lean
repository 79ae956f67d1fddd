/- A part of the proof: see the last text. -/
import Derived.Test.YtcfmjomniaopcaaDoorR2Tbl
set_option linter.unusedSimpArgs false
set_option linter.unusedVariables false
/- The reference's Build. -/
namespace Go.Eng
open Go Go.Proofs
open Nat (reduceAdd reduceMul reduceSub)
set_option maxRecDepth 20000
set_option maxHeartbeats 32000000
attribute [local irreducible] wpI endP
def stepR (s : List Tbl) (x : Stm) : Except Int Tbl :=
  bif x.kind.1 != 1 then .error 1 else bif decide (8 ≤ s.length) || bigB x then .error 3 else bif okB x then (bif exB s x then .error 5 else
    match tabR s x with
    | some (t, e) => (match e == 0 with | true => .ok t | false => .error e)
    | none => .error 4) else .error 1
/-- The tables of statements. -/
def bldF (step : List Tbl → Stm → Except Int Tbl) (s : List Tbl) : List Stm → Except (Nat × Int) (List Tbl)
  | [] => .ok s
  | x :: r => match step s x with
    | .ok t => bldF step (s ++ [t]) r
    | .error e => .error (s.length, e)
def bldT : Except (Nat × Int) (List Tbl) → D
  | .ok s => .tuple [sl 5 encTbl (cn s), .int .i64 0, .int .i64 0]
  | .error (i, e) => .tuple [.nil, .int .i64 (i : Int), .int .i64 e]
theorem bld22 (l : Sl Stm) (hn : l.items.length ≤ 12) (hl : ∀ x ∈ l.items, SmallS x) : callP (XG GK) TT 22 [sl 22 encStm l] = some (bldT (bldF stepR [] l.items)) := by
  refine callP_val T22 rfl (by simp only [go_sem]) ?_
  unfold Tryd.f22
  simp only [Option.getD_some]
  simp +decide only[go_sem,reduceAdd,reduceMul,reduceSub]
  refine gw trivial ?_
  refine wpI_loopC (T := Nat × List Tbl) [0, 5, 6] rfl (by simp +decide only[go_sem,reduceAdd,reduceMul,reduceSub]; exact rfl) (fun p => [(6, .int .i64 (p.1 : Int)), (5, accN [] 5 (p.2.map encTbl))]) (fun _ => []) (fun p => ⟨[], accM [] (p.2.map encTbl)⟩) (fun p => p.1 ≤ l.items.length ∧ p.2.length = p.1 ∧ bldF stepR p.2 (l.items.drop p.1) = bldF stepR [] l.items) (fun p => l.items.length - p.1) (0, []) (by simp +decide only[go_sem,reduceAdd,reduceMul,reduceSub] <;> rfl) (by simp) ?_
  rintro ⟨k, s⟩ ⟨hk, hs, hP⟩
  simp only at hk hs hP ⊢
  have hsl : s.length < 4611686018427387904 := by omega
  have hst : ∀ g, stripF g (accN [] 5 (s.map encTbl)) = sl 5 encTbl (cn s) := fun g => by rw [strip_accN (stripFL_map _ (fun y => strip_Tbl y) _), out_cn _ _ hsl]
  have n1 : ((1 : Int) != 0) = true := rfl
  have n3 : ((3 : Int) != 0) = true := rfl
  have n4 : ((4 : Int) != 0) = true := rfl
  have n5 : ((5 : Int) != 0) = true := rfl
  by_cases h : k < l.items.length
  · have hlt := l.lt
    have l_x : ((k : Int) < ((l.items).length : Int)) = True := by simp; omega
    obtain ⟨x, g_x⟩ : ∃ a_, (l.items)[k]? = some a_ := ⟨_, List.getElem?_eq_getElem (by assumption)⟩
    have w_x := wrap_nat k (by omega)
    rw [dropc g_x, bldF, stepR] at hP
    have hx := hl x (List.mem_of_getElem? g_x)
    have c57 := inv57 x hx
    have c58 := ex58 (cn s) x hx
    rw [cn_items hsl] at c58
    simp only [encStm_eq] at c57 c58
    have htk : List.take 16 x.rest.1 = x.rest.1 := List.take_of_length_le (by rw [rest_len]; exact Nat.le_refl _)
    cases b1 : (x.kind.1 != 1)
    · rw [b1, cond_false] at hP
      by_cases b2 : (8 : Int) ≤ (k : Int)
      · rw [decide_eq_true (show 8 ≤ s.length by omega), Bool.true_or, cond_true] at hP
        refine gw (an hst (an n1 (an n3 (an n4 (an n5 (an l_x (an g_x (an w_x (an c57 (an c58 (an htk (an b1 b2)))))))))))) ?_
        simp +decide only[go_sem,reduceAdd,reduceMul,reduceSub,hst,n1,n3,n4,n5,l_x,g_x,w_x,c57,c58,htk,b1,b2]
        rw [← hP, hs]; rfl
      rw [decide_eq_false (show ¬ 8 ≤ s.length by omega), Bool.false_or, bigB] at hP
      by_cases b3 : (8 : Int) < (x.cols.items.length : Int)
      · rw [decide_eq_true (show 8 < x.cols.items.length by omega), Bool.true_or, cond_true] at hP
        refine gw (an hst (an n1 (an n3 (an n4 (an n5 (an l_x (an g_x (an w_x (an c57 (an c58 (an htk (an b1 (an b2 b3))))))))))))) ?_
        simp +decide only[go_sem,reduceAdd,reduceMul,reduceSub,hst,n1,n3,n4,n5,l_x,g_x,w_x,c57,c58,htk,b1,b2,b3]
        rw [← hP, hs]; rfl
      rw [decide_eq_false (show ¬ 8 < x.cols.items.length by omega), Bool.false_or] at hP
      by_cases b4 : (4 : Int) < (x.keys.items.length : Int)
      · rw [decide_eq_true (show 4 < x.keys.items.length by omega), Bool.true_or, cond_true] at hP
        refine gw (an hst (an n1 (an n3 (an n4 (an n5 (an l_x (an g_x (an w_x (an c57 (an c58 (an htk (an b1 (an b2 (an b3 b4)))))))))))))) ?_
        simp +decide only[go_sem,reduceAdd,reduceMul,reduceSub,hst,n1,n3,n4,n5,l_x,g_x,w_x,c57,c58,htk,b1,b2,b3,b4]
        rw [← hP, hs]; rfl
      rw [decide_eq_false (show ¬ 4 < x.keys.items.length by omega), Bool.false_or] at hP
      by_cases b5 : (4 : Int) < (x.fgns.items.length : Int)
      · rw [decide_eq_true (show 4 < x.fgns.items.length by omega), Bool.true_or, cond_true] at hP
        refine gw (an hst (an n1 (an n3 (an n4 (an n5 (an l_x (an g_x (an w_x (an c57 (an c58 (an htk (an b1 (an b2 (an b3 (an b4 b5))))))))))))))) ?_
        simp +decide only[go_sem,reduceAdd,reduceMul,reduceSub,hst,n1,n3,n4,n5,l_x,g_x,w_x,c57,c58,htk,b1,b2,b3,b4,b5]
        rw [← hP, hs]; rfl
      rw [decide_eq_false (show ¬ 4 < x.fgns.items.length by omega), Bool.false_or] at hP
      by_cases b6 : (4 : Int) < (x.checks.items.length : Int)
      · rw [decide_eq_true (show 4 < x.checks.items.length by omega), cond_true] at hP
        refine gw (an hst (an n1 (an n3 (an n4 (an n5 (an l_x (an g_x (an w_x (an c57 (an c58 (an htk (an b1 (an b2 (an b3 (an b4 (an b5 b6)))))))))))))))) ?_
        simp +decide only[go_sem,reduceAdd,reduceMul,reduceSub,hst,n1,n3,n4,n5,l_x,g_x,w_x,c57,c58,htk,b1,b2,b3,b4,b5,b6]
        rw [← hP, hs]; rfl
      rw [decide_eq_false (show ¬ 4 < x.checks.items.length by omega), cond_false] at hP
      cases b7 : (okB x)
      · rw [b7, cond_false] at hP
        simp only [b7, Bool.not_false] at c57
        refine gw (an hst (an n1 (an n3 (an n4 (an n5 (an l_x (an g_x (an w_x (an c57 (an c58 (an htk (an b1 (an b2 (an b3 (an b4 (an b5 (an b6 b7))))))))))))))))) ?_
        simp +decide only[go_sem,reduceAdd,reduceMul,reduceSub,hst,n1,n3,n4,n5,l_x,g_x,w_x,c57,c58,htk,b1,b2,b3,b4,b5,b6,b7]
        rw [← hP, hs]; rfl
      rw [b7, cond_true] at hP
      simp only [b7, Bool.not_true] at c57
      cases b8 : (exB s x)
      · rw [b8, cond_false] at hP
        have hok : x.fgns.items.all fgB = true := by
          simp only [okB, Bool.and_eq_true] at b7; exact b7.2.2.2.2
        have c59 := tab59 (cn s) x hx hok (by rw [cn_items hsl]; omega)
        rw [cn_items hsl] at c59
        simp only [encStm_eq] at c59
        generalize tabR s x = o at *
        cases o with
        | none =>
          simp only [tabT] at c59
          refine gw (an hst (an n1 (an n3 (an n4 (an n5 (an l_x (an g_x (an w_x (an c57 (an c58 (an htk (an b1 (an b2 (an b3 (an b4 (an b5 (an b6 (an b7 (an b8 c59))))))))))))))))))) ?_
          simp +decide only[go_sem,reduceAdd,reduceMul,reduceSub,hst,n1,n3,n4,n5,l_x,g_x,w_x,c57,c58,htk,b1,b2,b3,b4,b5,b6,b7,b8,c59]
          rw [← hP, hs]; rfl
        | some te =>
          obtain ⟨t, e⟩ := te
          dsimp only at hP
          by_cases he : e = 0
          · subst he
            simp only [tabT, encTbl_eq] at c59
            have hle : ((s.map encTbl).length + 1 ≤ 16777216) = True := eq_true (by rw [List.length_map]; omega)
            refine gw (an hst (an n1 (an n3 (an n4 (an n5 (an l_x (an g_x (an w_x (an c57 (an c58 (an htk (an b1 (an b2 (an b3 (an b4 (an b5 (an b6 (an b7 (an b8 (an c59 hle)))))))))))))))))))) ?_
            refine ⟨(k + 1, s ++ [t]), ?_, ⟨by simp only; omega, by simp [hs], hP⟩, by simp only; omega⟩
            rw [List.map_append, List.map_cons, List.map_nil, encTbl_eq]
            exact by simp +decide only[go_sem,reduceAdd,reduceMul,reduceSub,hst,n1,n3,n4,n5,l_x,g_x,w_x,c57,c58,htk,b1,b2,b3,b4,b5,b6,b7,b8,c59] <;> rfl
          · have he2 := bneT he
            have hT : tabT (some (t, e)) = .tuple [.agg [.str [], .nil, .nil, .nil, .nil], .int .i64 e] := by
              unfold tabT
              split
              · rename_i h; cases h; exact absurd rfl he
              · rename_i h; cases h; rfl
              · rename_i h; cases h
            rw [hT] at c59
            refine gw (an hst (an n1 (an n3 (an n4 (an n5 (an l_x (an g_x (an w_x (an c57 (an c58 (an htk (an b1 (an b2 (an b3 (an b4 (an b5 (an b6 (an b7 (an b8 (an c59 he2)))))))))))))))))))) ?_
            simp +decide only[go_sem,reduceAdd,reduceMul,reduceSub,hst,n1,n3,n4,n5,l_x,g_x,w_x,c57,c58,htk,b1,b2,b3,b4,b5,b6,b7,b8,c59]
            rw [beqF he] at hP
            rw [← hP, hs]; rfl
      · rw [b8, cond_true] at hP
        refine gw (an hst (an n1 (an n3 (an n4 (an n5 (an l_x (an g_x (an w_x (an c57 (an c58 (an htk (an b1 (an b2 (an b3 (an b4 (an b5 (an b6 (an b7 b8)))))))))))))))))) ?_
        simp +decide only[go_sem,reduceAdd,reduceMul,reduceSub,hst,n1,n3,n4,n5,l_x,g_x,w_x,c57,c58,htk,b1,b2,b3,b4,b5,b6,b7,b8]
        rw [← hP, hs]; rfl
    · rw [b1, cond_true] at hP
      refine gw (an hst (an n1 (an n3 (an n4 (an n5 (an l_x (an g_x (an w_x (an c57 (an c58 (an htk b1))))))))))) ?_
      simp +decide only[go_sem,reduceAdd,reduceMul,reduceSub,hst,n1,n3,n4,n5,l_x,g_x,w_x,c57,c58,htk,b1]
      rw [← hP, hs]; rfl
  · have l_x : ((k : Int) < ((l.items).length : Int)) = False := by simp; omega
    rw [List.drop_eq_nil_of_le (by omega), bldF] at hP
    refine gw (an hst (an n1 (an n3 (an n4 (an n5 l_x))))) ?_
    simp +decide only[go_sem,reduceAdd,reduceMul,reduceSub,hst,n1,n3,n4,n5,l_x]
    rw [← hP]; rfl
end Go.Eng
