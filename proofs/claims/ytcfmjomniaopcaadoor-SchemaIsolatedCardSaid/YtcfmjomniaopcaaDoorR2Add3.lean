/- A part of the proof: see the last text. -/
import Derived.Test.YtcfmjomniaopcaaDoorR2AddL
import Derived.Test.YtcfmjomniaopcaaDoorR2FnL
set_option linter.unusedSimpArgs false
set_option linter.unusedVariables false
/- The builder's add: the walk. -/
namespace Go.Eng
open Go Go.Proofs
open Nat (reduceAdd reduceMul reduceSub)
set_option maxRecDepth 20000
set_option maxHeartbeats 32000000
attribute [local irreducible] wpI endP
theorem add56 (s : List TblC) (x : Stm) (hx : SmallS x) (v : D) (es : List D) (g : List (List D)) (tk : List Nat) (hv : Own 5 tk v es) (hes : SeesL ([v] :: g) es (s.map encTblC)) (hs : s.length ≤ 20) :
    ∃ r m', callR (XG GK) TT 56 ⟨[v] :: g, tk⟩ [.ptr 0 0, encStm x] = some (r, m') ∧ AddQ s x es g r m' := by
  obtain ⟨x1, x2, x3, x4, x5, x6, x7, x8, x9⟩ := hx
  have hx : SmallS x := ⟨x1, x2, x3, x4, x5, x6, x7, x8, x9⟩
  have hsl : s.length < 4611686018427387904 := by omega
  have hel : es.length = s.length := by
    have := congrArg List.length (hes _ (AgB.refl _ tk))
    rw [stripFL_length, List.length_map] at this; exact this
  have hvs : Sees ([v] :: g) v (sl 5 encTblC (cn s)) := fun m hm => by rw [hv.strip, hes m hm, out_cn _ _ hsl]
  have hok := hv.ok
  have hcl := hv.cells
  have hlen : ∀ P u, lenT P u v = match sliceElem P u with | some _ => some s.length | none => none := fun P u => by rw [hv.len, hel]; rfl
  refine callR_body T56 rfl ?_
  unfold Tryd.f56
  simp only [Option.getD_some]
  have c94 := shape94 x hx
  obtain ⟨g1, c95, hg1⟩ := twice95C (cn s) x hx v g tk hvs hcl hok
  rw [cn_items hsl] at c95
  simp only [encStm_eq] at c94 c95
  have htk : List.take 16 x.rest.1 = x.rest.1 := List.take_of_length_le (by rw [rest_len]; exact Nat.le_refl _)
  have h50 : ((5 : Int) != 0) = true := rfl
  have h40 : ((4 : Int) != 0) = true := rfl
  unfold AddQ addI
  simp +decide only[go_sem,reduceAdd,reduceMul,reduceSub,true_and,h50,h40,hok,hcl,hlen,c94,c95,htk]
  repeat (first|(with_reducible first|refine q1 ?_|refine q2 ?_|refine q3 ?_|refine q4 ?_|refine q5 ?_|refine q6 ?_|refine q7 ?_|refine q8 ?_|refine q9 ?_|refine q10 ?_|refine q11 ?_|refine q12 (by decide) ?_)|((first|with_reducible refine q13 ?_|((with_reducible refine q14 ?_ ?_);focus exact rfl));intro K hK;simp +decide only[go_sem,reduceAdd,reduceMul,reduceSub,true_and,h50,h40,hok,hcl,hlen,c94,c95,htk];with_reducible refine hK _ ?_;clear hK K)|(with_reducible refine q15 ?_;intro K J hK hJ;simp +decide only[go_sem,reduceAdd,reduceMul,reduceSub,true_and,h50,h40,hok,hcl,hlen,c94,c95,htk];(with_reducible first|refine hK ?_|refine hJ ?_);clear hK hJ K J))
  cases b1 : (x.kind.1 != 1)
  · by_cases b2 : (8 : Int) ≤ (s.length : Int)
    · repeat (first|(with_reducible first|refine q1 ?_|refine q2 ?_|refine q3 ?_|refine q4 ?_|refine q5 ?_|refine q6 ?_|refine q7 ?_|refine q8 ?_|refine q9 ?_|refine q10 ?_|refine q11 ?_|refine q12 (by decide) ?_)|((first|with_reducible refine q13 ?_|((with_reducible refine q14 ?_ ?_);focus exact rfl));intro K hK;simp +decide only[go_sem,reduceAdd,reduceMul,reduceSub,true_and,h50,h40,hok,hcl,hlen,c94,c95,htk,b1,b2];with_reducible refine hK _ ?_;clear hK K)|(with_reducible refine q15 ?_;intro K J hK hJ;simp +decide only[go_sem,reduceAdd,reduceMul,reduceSub,true_and,h50,h40,hok,hcl,hlen,c94,c95,htk,b1,b2];(with_reducible first|refine hK ?_|refine hJ ?_);clear hK hJ K J))
      simp +decide only[go_sem,reduceAdd,reduceMul,reduceSub,true_and,h50,h40,hok,hcl,hlen,c94,c95,htk,b1,b2]
      simp only [decide_eq_true (show 8 ≤ s.length by omega), cond_true, cond_false]
    rw [decide_eq_false (show ¬ 8 ≤ s.length by omega), cond_false, cond_false]
    repeat (first|(with_reducible first|refine q1 ?_|refine q2 ?_|refine q3 ?_|refine q4 ?_|refine q5 ?_|refine q6 ?_|refine q7 ?_|refine q8 ?_|refine q9 ?_|refine q10 ?_|refine q11 ?_|refine q12 (by decide) ?_)|((first|with_reducible refine q13 ?_|((with_reducible refine q14 ?_ ?_);focus exact rfl));intro K hK;simp +decide only[go_sem,reduceAdd,reduceMul,reduceSub,true_and,h50,h40,hok,hcl,hlen,c94,c95,htk,b1,b2];with_reducible refine hK _ ?_;clear hK K)|(with_reducible refine q15 ?_;intro K J hK hJ;simp +decide only[go_sem,reduceAdd,reduceMul,reduceSub,true_and,h50,h40,hok,hcl,hlen,c94,c95,htk,b1,b2];(with_reducible first|refine hK ?_|refine hJ ?_);clear hK hJ K J))
    cases b3 : (shI x != 0)
    · cases b4 : (exBC s x)
      · have hok : okB x = true := by
          have : shI x = 0 := by simpa using b3
          unfold shI at this
          cases hb : bigB x <;> cases ho : okB x <;> rw [hb, ho] at this <;> first | rfl | (exact absurd this (by decide))
        have h0 : x.cols.items ≠ [] := fun e => by
          simp only [okB, Bool.and_eq_true, e] at hok
          exact absurd hok.2.1 (by decide)
        have c96 : callR (XG GK) TT 100096 ⟨[v] :: g1, tk⟩ [sl 6 encCol x.cols] = some (.rsl (g1.length + 1) 0 x.cols.items.length 6, ⟨[v] :: (g1 ++ [flat (x.cols.items.map encCol)]), tk⟩) := clone96B x.cols ⟨[v] :: g1, tk⟩ (by omega) h0
        have hcB : BoxS encCol ([v] :: (g1 ++ [flat (x.cols.items.map encCol)])) 6 (.rsl (g1.length + 1) 0 x.cols.items.length 6) x.cols.items := .inr ⟨h0, g1.length + 1, Nat.succ_pos _, rfl, by simp⟩
        have hcn : x.cols = cn x.cols.items := cn_self h0
        have hg2 : g <+: g1 ++ [flat (x.cols.items.map encCol)] := hg1.trans (List.prefix_append _ _)
        have hsub : Sub ⟨[v] :: g1, tk⟩ ⟨[v] :: (g1 ++ [flat (x.cols.items.map encCol)]), tk⟩ = True := eq_true fun id z hz => by
          show (([v] :: g1) ++ [flat (x.cols.items.map encCol)])[id]? = some z
          rw [List.getElem?_append_left (List.getElem?_eq_some_iff.1 hz).1]; exact hz
        generalize hgE : g1 ++ [flat (x.cols.items.map encCol)] = g2 at *
        have hcs : Sees ([v] :: g2) (.rsl (g1.length + 1) 0 x.cols.items.length 6) (sl 6 encCol x.cols) := by
          have := hcB.sees x.cols.lt Col_len Col_mk Col_strip
          rw [← hcn] at this; exact this
        have hcok := hcB.ok
        have hccl := hcB.cells
        generalize hcD : D.rsl (g1.length + 1) 0 x.cols.items.length 6 = cD at *
        simp only [cond_false]
        repeat (first|(with_reducible first|refine q1 ?_|refine q2 ?_|refine q3 ?_|refine q4 ?_|refine q5 ?_|refine q6 ?_|refine q7 ?_|refine q8 ?_|refine q9 ?_|refine q10 ?_|refine q11 ?_|refine q12 (by decide) ?_)|((first|with_reducible refine q13 ?_|((with_reducible refine q14 ?_ ?_);focus exact rfl));intro K hK;simp +decide only[go_sem,reduceAdd,reduceMul,reduceSub,true_and,h50,h40,hok,hcl,hlen,c94,c95,htk,b1,b2,b3,b4,false_or,hsub,c96,hcok,hccl];with_reducible refine hK _ ?_;clear hK K)|(with_reducible refine q15 ?_;intro K J hK hJ;simp +decide only[go_sem,reduceAdd,reduceMul,reduceSub,true_and,h50,h40,hok,hcl,hlen,c94,c95,htk,b1,b2,b3,b4,false_or,hsub,c96,hcok,hccl];(with_reducible first|refine hK ?_|refine hJ ?_);clear hK hJ K J))
        refine wpI_loopC (T := Nat × List (Sl I64) × List D × List (List D)) [0, 3, 7, 48, 49, 50] rfl (by simp +decide only[go_sem,reduceAdd,reduceMul,reduceSub,true_and,h50,h40,hok,hcl,hlen,c94,c95,htk,b1,b2,b3,b4,false_or,hsub,c96,hcok,hccl]; exact rfl) (fun p => [(50, .int .i64 (p.1 : Int))]) (fun p => [(7, [.str x.name, cD, accN tk 1 p.2.2.1, .nil, .nil])]) (fun p => ⟨[v] :: p.2.2.2, accM tk p.2.2.1⟩) (fun p => p.1 ≤ x.keys.items.length ∧ p.2.1.length = p.1 ∧ KeysB ([v] :: p.2.2.2) p.2.2.1 p.2.1 ∧ g2 <+: p.2.2.2 ∧ keysL x.cols.items p.2.1 (x.keys.items.drop p.1) = keysL x.cols.items [] x.keys.items) (fun p => x.keys.items.length - p.1) (0, [], [], g2) (by simp +decide only[go_sem,reduceAdd,reduceMul,reduceSub,true_and,h50,h40,hok,hcl,hlen,c94,c95,htk,b1,b2,b3,b4,false_or,hsub,c96,hcok,hccl] <;> rfl) (by exact ⟨Nat.zero_le _, rfl, trivial, List.prefix_refl _, rfl⟩) ?_
        rintro ⟨k, acc, kds, g3⟩ ⟨hk, ha, hKB, hpg, hP⟩
        simp only at hk ha hKB hpg hP ⊢
        have hal : acc.length < 4611686018427387904 := by omega
        have hkl0 := hKB.len
        have hks : Sees ([v] :: g3) (accN tk 1 kds) (sl 1 (sl 1 I) (cn acc)) := by
          have := hKB.sees.acc (b := tk) (k := 1)
          rw [out_cn 1 (sl 1 I) hal] at this; exact this
        have hcs3 : Sees ([v] :: g3) cD (sl 6 encCol x.cols) := hcs.pre (List.cons_prefix_cons.2 ⟨rfl, hpg⟩)
        have hrow : Sees ([v] :: g3) (.agg [.str x.name, cD, accN tk 1 kds, .nil, .nil]) (encTblC ⟨x.name, x.cols, cn acc, nilS, nilC⟩) := fun m hm => by
          simp only [stripF_agg, stripFL_cons, hcs3 m hm, hks m hm, go_sem]
          rfl
        by_cases h : k < x.keys.items.length
        · have hklt := x.keys.lt
          have l_y : ((k : Int) < ((x.keys.items).length : Int)) = True := by simp; omega
          obtain ⟨y, g_y⟩ : ∃ a_, (x.keys.items)[k]? = some a_ := ⟨_, List.getElem?_eq_getElem (by assumption)⟩
          have w_y := wrap_nat k (by omega)
          rw [dropc g_y, keysL] at hP
          have hy := x7 y (List.mem_of_getElem? g_y)
          obtain ⟨r1, m1, c1, gj, rfl, hq1⟩ := numbers97B ⟨x.name, x.cols, cn acc, nilS, nilC⟩ (.str x.name) cD (accN tk 1 kds) .nil .nil rfl y (by omega) ([v] :: g3) (accM tk kds) hrow
          have hl1 := numsL_len x.cols.items y.items []
          simp only at hq1
          generalize numsL x.cols.items [] y.items = o1 at *
          simp only [List.cons_append] at c1
          cases o1 with
          | none =>
            simp only at hq1
            subst hq1
            repeat (first|(with_reducible first|refine q1 ?_|refine q2 ?_|refine q3 ?_|refine q4 ?_|refine q5 ?_|refine q6 ?_|refine q7 ?_|refine q8 ?_|refine q9 ?_|refine q10 ?_|refine q11 ?_|refine q12 (by decide) ?_)|((first|with_reducible refine q13 ?_|((with_reducible refine q14 ?_ ?_);focus exact rfl));intro K hK;simp +decide only[go_sem,reduceAdd,reduceMul,reduceSub,true_and,h50,h40,hok,hcl,hlen,c94,c95,htk,b1,b2,b3,b4,false_or,hsub,c96,hcok,hccl,l_y,g_y,w_y,c1];with_reducible refine hK _ ?_;clear hK K)|(with_reducible refine q15 ?_;intro K J hK hJ;simp +decide only[go_sem,reduceAdd,reduceMul,reduceSub,true_and,h50,h40,hok,hcl,hlen,c94,c95,htk,b1,b2,b3,b4,false_or,hsub,c96,hcok,hccl,l_y,g_y,w_y,c1];(with_reducible first|refine hK ?_|refine hJ ?_);clear hK hJ K J))
            simp +decide only[go_sem,reduceAdd,reduceMul,reduceSub,true_and,h50,h40,hok,hcl,hlen,c94,c95,htk,b1,b2,b3,b4,false_or,hsub,c96,hcok,hccl,l_y,g_y,w_y]
            rw [← hP]
          | some l =>
            have hll := hl1 l rfl
            obtain ⟨kd, rfl, hN⟩ := hq1
            have hko := hN.ok
            have hkc := hN.cells
            have hle : (kds.length + 1 ≤ 16777216) = True := eq_true (by omega)
            repeat (first|(with_reducible first|refine q1 ?_|refine q2 ?_|refine q3 ?_|refine q4 ?_|refine q5 ?_|refine q6 ?_|refine q7 ?_|refine q8 ?_|refine q9 ?_|refine q10 ?_|refine q11 ?_|refine q12 (by decide) ?_)|((first|with_reducible refine q13 ?_|((with_reducible refine q14 ?_ ?_);focus exact rfl));intro K hK;simp +decide only[go_sem,reduceAdd,reduceMul,reduceSub,true_and,h50,h40,hok,hcl,hlen,c94,c95,htk,b1,b2,b3,b4,false_or,hsub,c96,hcok,hccl,l_y,g_y,w_y,c1,hko,hkc,hle];with_reducible refine hK _ ?_;clear hK K)|(with_reducible refine q15 ?_;intro K J hK hJ;simp +decide only[go_sem,reduceAdd,reduceMul,reduceSub,true_and,h50,h40,hok,hcl,hlen,c94,c95,htk,b1,b2,b3,b4,false_or,hsub,c96,hcok,hccl,l_y,g_y,w_y,c1,hko,hkc,hle];(with_reducible first|refine hK ?_|refine hJ ?_);clear hK hJ K J))
            refine ⟨(k + 1, acc ++ [cn l], kds ++ [kd], g3 ++ gj), by simp +decide only[go_sem,reduceAdd,reduceMul,reduceSub,true_and,h50,h40,hok,hcl,hlen,c94,c95,htk,b1,b2,b3,b4,false_or,hsub,c96,hcok,hccl,l_y,g_y,w_y] <;> rfl, ⟨by simp only; omega, by simp [ha], ?_, hpg.trans (List.prefix_append _ _), hP⟩, by simp only; omega⟩
            exact KeysB.push (by simp at hll; omega) (hN.boxS (by simp)) (hKB.agree fun i c _ hc => (by
              show ([v] :: g3 ++ gj)[i]? = some c
              rw [List.getElem?_append_left (List.getElem?_eq_some_iff.1 hc).1]; exact hc))
        have l_e1 : ((k : Int) < ((x.keys.items).length : Int)) = False := by simp; omega
        rw [List.drop_eq_nil_of_le (by omega), keysL] at hP
        rw [← hP]
        have hkok := okC_accN tk 1 kds
        have hkcl := cells_accN tk 1 kds
        generalize hkD : accN tk 1 kds = kD at *
        generalize htk2 : accM tk kds = tk2 at *
        have c98 : callR (XG GK) TT 98 ⟨[v] :: g3, tk2⟩ [v] = some (accN tk2 5 es, ⟨[v] :: g3, accM tk2 es⟩) := clone98 v es ⟨[v] :: g3, tk2⟩ (by omega) (hv.imp id fun ⟨id, a, b, _⟩ => ⟨id, a, b⟩)
        have hle4 : (es.length + 1 ≤ 16777216) = True := eq_true (by omega)
        repeat (first|(with_reducible first|refine q1 ?_|refine q2 ?_|refine q3 ?_|refine q4 ?_|refine q5 ?_|refine q6 ?_|refine q7 ?_|refine q8 ?_|refine q9 ?_|refine q10 ?_|refine q11 ?_|refine q12 (by decide) ?_)|((first|with_reducible refine q13 ?_|((with_reducible refine q14 ?_ ?_);focus exact rfl));intro K hK;simp +decide only[go_sem,reduceAdd,reduceMul,reduceSub,true_and,h50,h40,hok,hcl,hlen,c94,c95,htk,b1,b2,b3,b4,false_or,hsub,c96,hcok,hccl,l_e1,c98,hle4];with_reducible refine hK _ ?_;clear hK K)|(with_reducible refine q15 ?_;intro K J hK hJ;simp +decide only[go_sem,reduceAdd,reduceMul,reduceSub,true_and,h50,h40,hok,hcl,hlen,c94,c95,htk,b1,b2,b3,b4,false_or,hsub,c96,hcok,hccl,l_e1,c98,hle4];(with_reducible first|refine hK ?_|refine hJ ?_);clear hK hJ K J))
        generalize htk3 : accM tk2 (es ++ [_]) = tk3 at *
        have hall : (s ++ [(⟨x.name, x.cols, cn acc, nilS, nilC⟩ : TblC)]).length < 4611686018427387904 := by simp; omega
        have hsA : Sees ([v] :: g3) (accN tk2 5 (es ++ [D.agg [D.str x.name, cD, kD, D.nil, D.nil]])) (sl 5 encTblC (cn (s ++ [(⟨x.name, x.cols, cn acc, nilS, nilC⟩ : TblC)]))) := by
          rw [← out_cn 5 encTblC hall, List.map_append]
          exact SeesL.acc (SeesL.push (hes.pre (List.cons_prefix_cons.2 ⟨rfl, hg2.trans hpg⟩)) hrow)
        have hfgB : x.fgns.items.all fgB = true := by simp only [okB, Bool.and_eq_true] at hok; exact hok.2.2.2.2
        generalize hallE : s ++ [(⟨x.name, x.cols, cn acc, nilS, nilC⟩ : TblC)] = all at *
        have hlastA : (cn all).items[(cn all).items.length - 1]? = some ⟨x.name, x.cols, cn acc, nilS, nilC⟩ := by rw [cn_items hall, ← hallE]; simp
        have hsok := okC_accN tk2 5 (es ++ [D.agg [D.str x.name, cD, kD, D.nil, D.nil]])
        have hscl := cells_accN tk2 5 (es ++ [D.agg [D.str x.name, cD, kD, D.nil, D.nil]])
        generalize hsD : accN tk2 5 (es ++ [D.agg [D.str x.name, cD, kD, D.nil, D.nil]]) = sD at *
        refine wpI_loopC (T := Nat × List Fgn) [0, 3, 7, 12, 79, 80, 81] rfl (by simp +decide only[go_sem,reduceAdd,reduceMul,reduceSub,true_and,h50,h40,hok,hcl,hlen,c94,c95,htk,b1,b2,b3,b4,false_or,hsub,c96,hcok,hccl,l_e1,c98,hle4,hallE,hsok,hscl,hkok,hkcl]; exact rfl) (fun p => [(81, .int .i64 (p.1 : Int))]) (fun p => [(7, [.str x.name, cD, kD, accN tk3 3 (p.2.map encFgn), .nil])]) (fun p => ⟨[v] :: g3, accM tk3 (p.2.map encFgn)⟩) (fun p => p.1 ≤ x.fgns.items.length ∧ p.2.length = p.1 ∧ fgsI all x.cols.items p.2 (x.fgns.items.drop p.1) = fgsI all x.cols.items [] x.fgns.items ∧ ∀ y ∈ p.2, FgOk all x.cols.items y) (fun p => x.fgns.items.length - p.1) (0, []) (by simp +decide only[go_sem,reduceAdd,reduceMul,reduceSub,true_and,h50,h40,hok,hcl,hlen,c94,c95,htk,b1,b2,b3,b4,false_or,hsub,c96,hcok,hccl,l_e1,c98,hle4,hallE,hsok,hscl,hkok,hkcl] <;> rfl) (by simp) ?_
        rintro ⟨k2, fs⟩ ⟨hk2, hfs, hQ, hG⟩
        simp only at hk2 hfs hQ hG ⊢
        have hfl : fs.length < 4611686018427387904 := by omega
        have hst3 : ∀ q, stripF q (accN tk3 3 (fs.map encFgn)) = sl 3 encFgn (cn fs) := fun q => by rw [strip_accN (stripFL_map _ (fun y => strip_Fgn y) _), out_cn _ _ hfl]
        by_cases h2 : k2 < x.fgns.items.length
        · have hflt := x.fgns.lt
          have l_y : ((k2 : Int) < ((x.fgns.items).length : Int)) = True := by simp; omega
          obtain ⟨y, g_y⟩ : ∃ a_, (x.fgns.items)[k2]? = some a_ := ⟨_, List.getElem?_eq_getElem (by assumption)⟩
          have w_y := wrap_nat k2 (by omega)
          rw [dropc g_y, fgsI] at hQ
          have hy := x8 y (List.mem_of_getElem? g_y)
          have hyok : fgB y = true := List.all_eq_true.1 hfgB y (List.mem_of_getElem? g_y)
          have hylen : y.cols.items.length = y.refs.items.length := by
            simp only [fgB, Bool.and_eq_true, beq_iff_eq] at hyok; omega
          have c99 := fgn99I (cn all) ⟨x.name, x.cols, cn acc, nilS, nilC⟩ y hlastA ⟨by omega, by omega⟩ ⟨[v] :: g3, accM tk3 (fs.map encFgn)⟩ sD (hsA _ (AgB.refl _ _))
          rw [cn_items hall] at c99
          simp only [encFgS_eq] at c99
          have hFg := fun g u b => @fgnOfC_ok all x.cols.items x.cols.lt hall y hylen g u b
          generalize fgnOfC (fun p l => fnd p 0 l) all x.cols.items y = o at *
          cases o with
          | none =>
            simp only [fgTC] at c99 hQ
            repeat (first|(with_reducible first|refine q1 ?_|refine q2 ?_|refine q3 ?_|refine q4 ?_|refine q5 ?_|refine q6 ?_|refine q7 ?_|refine q8 ?_|refine q9 ?_|refine q10 ?_|refine q11 ?_|refine q12 (by decide) ?_)|((first|with_reducible refine q13 ?_|((with_reducible refine q14 ?_ ?_);focus exact rfl));intro K hK;simp +decide only[go_sem,reduceAdd,reduceMul,reduceSub,true_and,h50,h40,hok,hcl,hlen,c94,c95,htk,b1,b2,b3,b4,false_or,hsub,c96,hcok,hccl,l_e1,c98,hle4,hallE,hsok,hscl,hkok,hkcl,hst3,l_y,g_y,w_y,c99];with_reducible refine hK _ ?_;clear hK K)|(with_reducible refine q15 ?_;intro K J hK hJ;simp +decide only[go_sem,reduceAdd,reduceMul,reduceSub,true_and,h50,h40,hok,hcl,hlen,c94,c95,htk,b1,b2,b3,b4,false_or,hsub,c96,hcok,hccl,l_e1,c98,hle4,hallE,hsok,hscl,hkok,hkcl,hst3,l_y,g_y,w_y,c99];(with_reducible first|refine hK ?_|refine hJ ?_);clear hK hJ K J))
            simp +decide only[go_sem,reduceAdd,reduceMul,reduceSub,true_and,h50,h40,hok,hcl,hlen,c94,c95,htk,b1,b2,b3,b4,false_or,hsub,c96,hcok,hccl,l_e1,c98,hle4,hallE,hsok,hscl,hkok,hkcl,hst3,l_y,g_y,w_y,c99]
            rw [← hQ]
          | some q =>
            obtain ⟨f, u, b⟩ := q
            have hFg := (hFg f u b rfl).1
            simp only [fgTC, encFgn_eq] at c99 hQ
            have hle : ((fs.map encFgn).length + 1 ≤ 16777216) = True := eq_true (by rw [List.length_map]; omega)
            repeat (first|(with_reducible first|refine q1 ?_|refine q2 ?_|refine q3 ?_|refine q4 ?_|refine q5 ?_|refine q6 ?_|refine q7 ?_|refine q8 ?_|refine q9 ?_|refine q10 ?_|refine q11 ?_|refine q12 (by decide) ?_)|((first|with_reducible refine q13 ?_|((with_reducible refine q14 ?_ ?_);focus exact rfl));intro K hK;simp +decide only[go_sem,reduceAdd,reduceMul,reduceSub,true_and,h50,h40,hok,hcl,hlen,c94,c95,htk,b1,b2,b3,b4,false_or,hsub,c96,hcok,hccl,l_e1,c98,hle4,hallE,hsok,hscl,hkok,hkcl,hst3,l_y,g_y,w_y,c99,hle];with_reducible refine hK _ ?_;clear hK K)|(with_reducible refine q15 ?_;intro K J hK hJ;simp +decide only[go_sem,reduceAdd,reduceMul,reduceSub,true_and,h50,h40,hok,hcl,hlen,c94,c95,htk,b1,b2,b3,b4,false_or,hsub,c96,hcok,hccl,l_e1,c98,hle4,hallE,hsok,hscl,hkok,hkcl,hst3,l_y,g_y,w_y,c99,hle];(with_reducible first|refine hK ?_|refine hJ ?_);clear hK hJ K J))
            refine ⟨(k2 + 1, fs ++ [f]), ?_, ⟨by simp only; omega, by simp [hfs], hQ, fun z hz => ?_⟩, by simp only; omega⟩
            · rw [List.map_append]
              exact by simp +decide only[go_sem,reduceAdd,reduceMul,reduceSub,true_and,h50,h40,hok,hcl,hlen,c94,c95,htk,b1,b2,b3,b4,false_or,hsub,c96,hcok,hccl,l_e1,c98,hle4,hallE,hsok,hscl,hkok,hkcl,hst3,l_y,g_y,w_y,c99] <;> rfl
            · rcases List.mem_append.1 hz with hz | hz
              · exact hG z hz
              · rw [List.mem_singleton.1 hz]; exact hFg
        have l_e2 : ((k2 : Int) < ((x.fgns.items).length : Int)) = False := by simp; omega
        rw [List.drop_eq_nil_of_le (by omega), fgsI] at hQ
        rw [← hQ]
        have hlike : Like 3 encFgn (cn fs) (accN tk3 3 (fs.map encFgn)) := Like.ofAcc tk3 fs hfl fun y => strip_Fgn y
        have hfok := okC_accN tk3 3 (fs.map encFgn)
        have hfcl := cells_accN tk3 3 (fs.map encFgn)
        generalize hfD : accN tk3 3 (fs.map encFgn) = fD at *
        generalize htk4 : accM tk3 (fs.map encFgn) = tk4 at *
        obtain ⟨Mm, hMm⟩ : ∃ Mm : D → List (List D) → List (List D), Mm = fun c cb => mB ([v] :: g3) [sD] (fun c => [.str x.name, cD, kD, fD, c]) [.func 101 [.ptr (g3.length + 1) 0, .ptr (g3.length + 1 + 1) 0]] c cb := ⟨_, rfl⟩
        have hM0 : ∀ c cb, (Mm c cb)[0]? = some [v] := fun c cb => by rw [hMm]; exact mB_old rfl
        have hM1 : ∀ c cb, (Mm c cb)[g3.length + 1]? = some [sD] := fun c cb => by rw [hMm]; exact mB_a (B := [v] :: g3)
        have hMt : ∀ c cb, (Mm c cb)[g3.length + 1 + 1]? = some [.str x.name, cD, kD, fD, c] := fun c cb => by rw [hMm]; exact mB_t (B := [v] :: g3)
        have hMs : ∀ c c' cb, (Mm c cb).set (g3.length + 1 + 1) [.str x.name, cD, kD, fD, c'] = Mm c' cb := fun c c' cb => by rw [hMm]; exact mB_tab (B := [v] :: g3) c'
        have hMa : ∀ c cb z, Mm c cb ++ [z] = Mm c (cb ++ [z]) := fun c cb z => by rw [hMm]; exact mB_app z
        have hMl : ∀ c cb, (Mm c cb).length = g3.length + 4 + cb.length := fun c cb => by rw [hMm]; exact (mB_len (B := [v] :: g3)).trans (by rw [List.length_cons] <;> omega)
        have hMc : ∀ c cb i, (Mm c cb)[g3.length + 4 + i]? = cb[i]? := fun c cb i => by rw [hMm, show g3.length + 4 + i = ([v] :: g3).length + 3 + i by rw [List.length_cons] <;> omega]; exact mB_c (B := [v] :: g3) i
        have hMx : ∀ c cb i z, (Mm c cb).set (g3.length + 4 + i) z = Mm c (cb.set i z) := fun c cb i z => by rw [hMm, show g3.length + 4 + i = ([v] :: g3).length + 3 + i by rw [List.length_cons] <;> omega]; exact mB_set (B := [v] :: g3) i z
        have hMo : ∀ c cb, (Mm c cb)[g3.length + 4 + cb.length]? = none := fun c cb => by rw [hMc]; simp
        have c100 : callR (XG GK) TT 100 ⟨[v] :: (g3 ++ [[sD]] ++ [[.str x.name, cD, kD, fD, .nil]]), tk4⟩ [fD, .func 101 [.ptr (g3.length + 1) 0, .ptr (g3.length + 1 + 1) 0]] = some (.bool (fs.all (typB all x.cols.items)), ⟨Mm .nil [], tk4⟩) := by
          have e1 : ([v] :: (g3 ++ [[sD]] ++ [[.str x.name, cD, kD, fD, .nil]])) ++ [[.func 101 [.ptr (g3.length + 1) 0, .ptr (g3.length + 1 + 1) 0]]] = Mm .nil [] := by rw [hMm]; simp [mB]
          have := all100L (cn fs) fD hlike 101 [.ptr (g3.length + 1) 0, .ptr (g3.length + 1 + 1) 0] ⟨[v] :: (g3 ++ [[sD]] ++ [[.str x.name, cD, kD, fD, .nil]]), tk4⟩ (typB all x.cols.items) (eq_true (by decide)) fun y hy => by
            simp only [e1]
            rw [cn_items hfl] at hy
            obtain ⟨u, b, y1, y2, y3, y4, y5, y6⟩ := (hG y hy).typ
            rw [y6]
            have hAg : AgB ([v] :: g3) ⟨Mm .nil [], tk4⟩ := by
              refine ⟨fun i c _ hc => ?_, ?_⟩
              · show (Mm .nil [])[i]? = some c
                rw [hMm]; exact mB_old hc
              · show ([v] :: g3).length ≤ (Mm .nil []).length
                rw [hMl, List.length_cons]; omega
            refine add101 ⟨Mm .nil [], tk4⟩ (g3.length + 1) (g3.length + 1 + 1) sD cD kD fD .nil (cn all) ⟨x.name, x.cols, cn acc, cn fs, nilC⟩ y _ (hM1 .nil []) (hMt .nil []) (hsA _ hAg) ?_ (types102C (G := GK) (cn all) ⟨x.name, x.cols, cn acc, cn fs, nilC⟩ u y b (by rw [cn_items hall]; exact y1) y2 y3 y4 y5)
            simp only [stripF_agg, stripFL_cons, hcs3 _ hAg, hks _ hAg, hst3 _, go_sem]
            rfl
          simp only [e1] at this
          rw [cn_items hfl] at this
          exact this
        cases ty : (fs.all (typB all x.cols.items))
        · repeat (first|(with_reducible first|refine q1 ?_|refine q2 ?_|refine q3 ?_|refine q4 ?_|refine q5 ?_|refine q6 ?_|refine q7 ?_|refine q8 ?_|refine q9 ?_|refine q10 ?_|refine q11 ?_|refine q12 (by decide) ?_)|((first|with_reducible refine q13 ?_|((with_reducible refine q14 ?_ ?_);focus exact rfl));intro K hK;simp +decide only[go_sem,reduceAdd,reduceMul,reduceSub,true_and,h50,h40,hok,hcl,hlen,c94,c95,htk,b1,b2,b3,b4,false_or,hsub,c96,hcok,hccl,l_e1,c98,hle4,hallE,hsok,hscl,hkok,hkcl,hst3,l_e2,c100,hfok,hfcl,hcok,hccl,hkok,hkcl,hM0,hMt,hMs,hMa,hMl,hMx,List.length_append,List.length_cons,List.length_nil,Nat.zero_add,ty];with_reducible refine hK _ ?_;clear hK K)|(with_reducible refine q15 ?_;intro K J hK hJ;simp +decide only[go_sem,reduceAdd,reduceMul,reduceSub,true_and,h50,h40,hok,hcl,hlen,c94,c95,htk,b1,b2,b3,b4,false_or,hsub,c96,hcok,hccl,l_e1,c98,hle4,hallE,hsok,hscl,hkok,hkcl,hst3,l_e2,c100,hfok,hfcl,hcok,hccl,hkok,hkcl,hM0,hMt,hMs,hMa,hMl,hMx,List.length_append,List.length_cons,List.length_nil,Nat.zero_add,ty];(with_reducible first|refine hK ?_|refine hJ ?_);clear hK hJ K J))
          simp +decide only[go_sem,reduceAdd,reduceMul,reduceSub,true_and,h50,h40,hok,hcl,hlen,c94,c95,htk,b1,b2,b3,b4,false_or,hsub,c96,hcok,hccl,l_e1,c98,hle4,hallE,hsok,hscl,hkok,hkcl,hst3,l_e2,c100,hfok,hfcl,hcok,hccl,hkok,hkcl,hM0,hMt,hMs,hMa,hMl,hMx,List.length_append,List.length_cons,List.length_nil,Nat.zero_add,ty]
          simp only [← hQ, ty]
        repeat (first|(with_reducible first|refine q1 ?_|refine q2 ?_|refine q3 ?_|refine q4 ?_|refine q5 ?_|refine q6 ?_|refine q7 ?_|refine q8 ?_|refine q9 ?_|refine q10 ?_|refine q11 ?_|refine q12 (by decide) ?_)|((first|with_reducible refine q13 ?_|((with_reducible refine q14 ?_ ?_);focus exact rfl));intro K hK;simp +decide only[go_sem,reduceAdd,reduceMul,reduceSub,true_and,h50,h40,hok,hcl,hlen,c94,c95,htk,b1,b2,b3,b4,false_or,hsub,c96,hcok,hccl,l_e1,c98,hle4,hallE,hsok,hscl,hkok,hkcl,hst3,l_e2,c100,hfok,hfcl,hcok,hccl,hkok,hkcl,hM0,hMt,hMs,hMa,hMl,hMx,List.length_append,List.length_cons,List.length_nil,Nat.zero_add,ty];with_reducible refine hK _ ?_;clear hK K)|(with_reducible refine q15 ?_;intro K J hK hJ;simp +decide only[go_sem,reduceAdd,reduceMul,reduceSub,true_and,h50,h40,hok,hcl,hlen,c94,c95,htk,b1,b2,b3,b4,false_or,hsub,c96,hcok,hccl,l_e1,c98,hle4,hallE,hsok,hscl,hkok,hkcl,hst3,l_e2,c100,hfok,hfcl,hcok,hccl,hkok,hkcl,hM0,hMt,hMs,hMa,hMl,hMx,List.length_append,List.length_cons,List.length_nil,Nat.zero_add,ty];(with_reducible first|refine hK ?_|refine hJ ?_);clear hK hJ K J))
        refine wpI_loopC (T := Nat × D × List (List D)) [0, 7, 108, 109, 110] rfl (by simp +decide only[go_sem,reduceAdd,reduceMul,reduceSub,true_and,h50,h40,hok,hcl,hlen,c94,c95,htk,b1,b2,b3,b4,false_or,hsub,c96,hcok,hccl,l_e1,c98,hle4,hallE,hsok,hscl,hkok,hkcl,hst3,l_e2,c100,hfok,hfcl,hcok,hccl,hkok,hkcl,hM0,hMt,hMs,hMa,hMl,hMx,List.length_append,List.length_cons,List.length_nil,Nat.zero_add,ty]; exact rfl) (fun p => [(110, .int .i64 (p.1 : Int))]) (fun _ => []) (fun p => ⟨Mm p.2.1 p.2.2, tk4⟩) (fun p => p.1 ≤ x.checks.items.length ∧ ((p.1 = 0 ∧ p.2.1 = .nil ∧ p.2.2 = []) ∨ (0 < p.1 ∧ ∃ cb0, p.2.2 = cb0 ++ [flat ((x.checks.items.take p.1).map encEx)] ∧ p.2.1 = .rsl (g3.length + 4 + cb0.length) 0 p.1 8))) (fun p => x.checks.items.length - p.1) (0, .nil, []) (by simp +decide only[go_sem,reduceAdd,reduceMul,reduceSub,true_and,h50,h40,hok,hcl,hlen,c94,c95,htk,b1,b2,b3,b4,false_or,hsub,c96,hcok,hccl,l_e1,c98,hle4,hallE,hsok,hscl,hkok,hkcl,hst3,l_e2,c100,hfok,hfcl,hcok,hccl,hkok,hkcl,hM0,hMt,hMs,hMa,hMl,hMx,List.length_append,List.length_cons,List.length_nil,Nat.zero_add,ty] <;> rfl) (by simp) ?_
        rintro ⟨k3, c, cb⟩ ⟨hk3, hI⟩
        simp only at hk3 hI ⊢
        by_cases h3 : k3 < x.checks.items.length
        · have hclt := x.checks.lt
          have l_y : ((k3 : Int) < ((x.checks.items).length : Int)) = True := by simp; omega
          obtain ⟨y, g_y⟩ : ∃ a_, (x.checks.items)[k3]? = some a_ := ⟨_, List.getElem?_eq_getElem (by assumption)⟩
          have w_y := wrap_nat k3 (by omega)
          have htl : ((x.checks.items.take k3).map encEx).length = k3 := by rw [List.length_map, List.length_take]; omega
          obtain ⟨cb1, hc1, hc2, hc3, hc4, hc5, hc6⟩ : ∃ cb1, (∀ z, appendB 8 ⟨Mm c cb, tk4⟩ c ((x.checks.items.take k3).map encEx) [z] = some (.rsl (g3.length + 4 + cb1.length) 0 (k3 + 1) 8, ⟨Mm c (cb1 ++ [flat ((x.checks.items.take k3).map encEx ++ [z])]), tk4⟩)) ∧ elemsOf ⟨Mm c cb, tk4⟩ 8 c = some ((x.checks.items.take k3).map encEx) ∧ lenT Tryd.prog 28 c = some k3 ∧ c.okC = true ∧ c.cells = [c] ∧ cb1.length = cb.length := by
            rcases hI with ⟨rfl, rfl, rfl⟩ | ⟨hpos, cb0, rfl, rfl⟩
            · refine ⟨[], fun z => ?_, rfl, rfl, rfl, rfl, rfl⟩
              simp only [appB_nil, hMl, hMa]
              rfl
            · have hfl8 : (flat ((x.checks.items.take k3).map encEx)).length = k3 * 8 := by
                rw [flat_len (k := 8) (fun d hd => by obtain ⟨a, _, rfl⟩ := List.mem_map.1 hd; exact ex_len a), htl]
              have hbx : (Mm (.rsl (g3.length + 4 + cb0.length) 0 k3 8) (cb0 ++ [flat ((x.checks.items.take k3).map encEx)]))[g3.length + 4 + cb0.length]? = some (flat ((x.checks.items.take k3).map encEx)) := by rw [hMc]; simp
              refine ⟨cb0 ++ [[]], fun z => ?_, ?_, rfl, rfl, rfl, by simp⟩
              · simp only [appB_rsl, hbx, hfl8, decide_true, Bool.true_and, hpos, cond_true, hMx, hMa, hMl]
                simp [htl]
                omega
              · simp only [elemsOf, elemsR, hbx, hfl8, decide_true, cond_true, Nat.zero_add, Nat.le_refl, List.drop_zero]
                have := chunks_flat (f := encEx) (k := 8) ex_len ex_mk (x.checks.items.take k3)
                rw [List.length_take, Nat.min_eq_left (by omega)] at this
                rw [this]
          have hcp := copy103 y (x9 y (List.mem_of_getElem? g_y))
          have hyc : D.agg (encEx y).cells = encEx y := by
            obtain ⟨r, he, _⟩ := y.open
            rw [he]; rfl
          have hyok : (encEx y).okC = true := by
            obtain ⟨r, he, _⟩ := y.open
            rw [he]; rfl
          have hsr : setRow [.int .i64 0, .str [], .str [], .int .i64 0, .int .i64 0, .int .i64 0, .str [], .nil] 0 (encEx y).cells = (encEx y).cells := by
            obtain ⟨r, he, _⟩ := y.open
            rw [he]; rfl
          have hzc : ∀ st, ev (XG GK) st (.const (.agg #[.int .i64 0, .string ⟨#[]⟩, .string ⟨#[]⟩, .int .i64 0, .int .i64 0, .int .i64 0, .string ⟨#[]⟩, .slice none 0 0])) = .agg [.int .i64 0, .str [], .str [], .int .i64 0, .int .i64 0, .int .i64 0, .str [], .nil] := fun _ => rfl
          have hle5 : (k3 + 1 ≤ 16777216) = True := eq_true (by omega)
          have hkk : (k3 < k3 + 1) = True := eq_true (Nat.lt_succ_self _)
          have hki : ((k3 : Int) < ((k3 + 1 : Nat) : Int)) = True := eq_true (by omega)
          generalize hes' : (x.checks.items.take k3).map encEx = es' at *
          have hesc : ∀ d ∈ es', d.cells.length = 8 := fun d hd => by
            rw [← hes'] at hd
            obtain ⟨a, _, rfl⟩ := List.mem_map.1 hd; exact ex_len a
          have hfl8 : ∀ z : D, z.cells.length = 8 → (flat (es' ++ [z])).length = (k3 + 1) * 8 := fun z hz => by
            rw [flat_len (k := 8) (fun d hd => by
              rcases List.mem_append.1 hd with hd | hd
              · exact hesc d hd
              · rw [List.mem_singleton.1 hd]; exact hz), List.length_append, htl]; rfl
          have hset : ∀ z : D, z.cells.length = 8 → setRow (flat (es' ++ [z])) (k3 * 8) (encEx y).cells = flat (es' ++ [encEx y]) := fun z hz => by
            rw [← flat_set (k := 8) (es' ++ [z]) k3 (encEx y) (fun d hd => by
              rcases List.mem_append.1 hd with hd | hd
              · exact hesc d hd
              · rw [List.mem_singleton.1 hd]; exact hz) (ex_len y) (by rw [List.length_append, htl]; simp)]
            rw [List.set_append_right _ _ (by omega), htl, Nat.sub_self]; rfl
          have hz8 : (D.agg [.int .i64 0, .str [], .str [], .int .i64 0, .int .i64 0, .int .i64 0, .str [], .nil]).cells.length = 8 := rfl
          have hno : (Mm c cb)[g3.length + 4 + cb1.length]? = none := by rw [hc6]; exact hMo c cb
          have hnew : ∀ c X, (Mm c (cb1 ++ [X]))[g3.length + 4 + cb1.length]? = some X := fun c X => by rw [hMc]; simp
          have hst5 : ∀ X Z : List D, (cb1 ++ [X]).set cb1.length Z = cb1 ++ [Z] := fun X Z => by rw [List.set_append_right _ _ (Nat.le_refl _), Nat.sub_self]; rfl
          have hk8 : (k3 * 8 + 8 ≤ (k3 + 1) * 8) = True := eq_true (by omega)
          have hfz := hfl8 _ hz8
          have hsz := hset _ hz8
          repeat (first|(with_reducible first|refine q1 ?_|refine q2 ?_|refine q3 ?_|refine q4 ?_|refine q5 ?_|refine q6 ?_|refine q7 ?_|refine q8 ?_|refine q9 ?_|refine q10 ?_|refine q11 ?_|refine q12 (by decide) ?_)|((first|with_reducible refine q13 ?_|((with_reducible refine q14 ?_ ?_);focus exact rfl));intro K hK;simp +decide only[go_sem,reduceAdd,reduceMul,reduceSub,true_and,h50,h40,hok,hcl,hlen,c94,c95,htk,b1,b2,b3,b4,false_or,hsub,c96,hcok,hccl,l_e1,c98,hle4,hallE,hsok,hscl,hkok,hkcl,hst3,l_e2,c100,hfok,hfcl,hcok,hccl,hkok,hkcl,hM0,hMt,hMs,hMa,hMl,hMx,List.length_append,List.length_cons,List.length_nil,Nat.zero_add,ty,l_y,g_y,w_y,hzc,hsr,hcp,hyc,hyok,hle5,hkk,hki,htl,hc1,hc2,hc3,hc4,hc5,hno,hnew,hst5,hfz,hsz,hk8];with_reducible refine hK _ ?_;clear hK K)|(with_reducible refine q15 ?_;intro K J hK hJ;simp +decide only[go_sem,reduceAdd,reduceMul,reduceSub,true_and,h50,h40,hok,hcl,hlen,c94,c95,htk,b1,b2,b3,b4,false_or,hsub,c96,hcok,hccl,l_e1,c98,hle4,hallE,hsok,hscl,hkok,hkcl,hst3,l_e2,c100,hfok,hfcl,hcok,hccl,hkok,hkcl,hM0,hMt,hMs,hMa,hMl,hMx,List.length_append,List.length_cons,List.length_nil,Nat.zero_add,ty,l_y,g_y,w_y,hzc,hsr,hcp,hyc,hyok,hle5,hkk,hki,htl,hc1,hc2,hc3,hc4,hc5,hno,hnew,hst5,hfz,hsz,hk8];(with_reducible first|refine hK ?_|refine hJ ?_);clear hK hJ K J))
          refine ⟨(k3 + 1, .rsl (g3.length + 4 + cb1.length) 0 (k3 + 1) 8, cb1 ++ [flat (es' ++ [encEx y])]), by simp +decide only[go_sem,reduceAdd,reduceMul,reduceSub,true_and,h50,h40,hok,hcl,hlen,c94,c95,htk,b1,b2,b3,b4,false_or,hsub,c96,hcok,hccl,l_e1,c98,hle4,hallE,hsok,hscl,hkok,hkcl,hst3,l_e2,c100,hfok,hfcl,hcok,hccl,hkok,hkcl,hM0,hMt,hMs,hMa,hMl,hMx,List.length_append,List.length_cons,List.length_nil,Nat.zero_add,ty,l_y,g_y,w_y,hzc,hsr,hcp,hyc,hyok,hle5,hkk,hki,htl,hc1,hc2,hc3,hc4,hc5,hno,hnew,hst5,hfz,hsz,hk8] <;> rfl, ⟨by simp only; omega, .inr ⟨by simp only; omega, cb1, ?_, rfl⟩⟩, by simp only; omega⟩
          simp only
          rw [List.take_add_one, g_y, List.map_append, hes']; rfl
        have l_e3 : ((k3 : Int) < ((x.checks.items).length : Int)) = False := by simp; omega
        have hv4 : Own 5 tk4 v es := hv.grow fun i n hn => by
          rw [← htk4, ← htk3, ← htk2]
          exact accM_get (accM_get (accM_get hn))
        obtain ⟨v2, tk5, ha5, hv5⟩ := hv4.app (Mm c cb) (.agg [.str x.name, cD, kD, fD, c]) []
        have hce : c.okC = true ∧ c.cells = [c] := by
          rcases hI with ⟨_, rfl, _⟩ | ⟨_, cb0, _, rfl⟩ <;> exact ⟨rfl, rfl⟩
        have hce1 := hce.1
        have hce2 := hce.2
        have hel5 := hv.elems
        have hvo := hv5.ok
        have hvc := hv5.cells
        repeat (first|(with_reducible first|refine q1 ?_|refine q2 ?_|refine q3 ?_|refine q4 ?_|refine q5 ?_|refine q6 ?_|refine q7 ?_|refine q8 ?_|refine q9 ?_|refine q10 ?_|refine q11 ?_|refine q12 (by decide) ?_)|((first|with_reducible refine q13 ?_|((with_reducible refine q14 ?_ ?_);focus exact rfl));intro K hK;simp +decide only[go_sem,reduceAdd,reduceMul,reduceSub,true_and,h50,h40,hok,hcl,hlen,c94,c95,htk,b1,b2,b3,b4,false_or,hsub,c96,hcok,hccl,l_e1,c98,hle4,hallE,hsok,hscl,hkok,hkcl,hst3,l_e2,c100,hfok,hfcl,hcok,hccl,hkok,hkcl,hM0,hMt,hMs,hMa,hMl,hMx,List.length_append,List.length_cons,List.length_nil,Nat.zero_add,ty,l_e3,ha5,hle4,hce1,hce2,hel5,hvo,hvc];with_reducible refine hK _ ?_;clear hK K)|(with_reducible refine q15 ?_;intro K J hK hJ;simp +decide only[go_sem,reduceAdd,reduceMul,reduceSub,true_and,h50,h40,hok,hcl,hlen,c94,c95,htk,b1,b2,b3,b4,false_or,hsub,c96,hcok,hccl,l_e1,c98,hle4,hallE,hsok,hscl,hkok,hkcl,hst3,l_e2,c100,hfok,hfcl,hcok,hccl,hkok,hkcl,hM0,hMt,hMs,hMa,hMl,hMx,List.length_append,List.length_cons,List.length_nil,Nat.zero_add,ty,l_e3,ha5,hle4,hce1,hce2,hel5,hvo,hvc];(with_reducible first|refine hK ?_|refine hJ ?_);clear hK hJ K J))
        simp +decide only[go_sem,reduceAdd,reduceMul,reduceSub,true_and,h50,h40,hok,hcl,hlen,c94,c95,htk,b1,b2,b3,b4,false_or,hsub,c96,hcok,hccl,l_e1,c98,hle4,hallE,hsok,hscl,hkok,hkcl,hst3,l_e2,c100,hfok,hfcl,hcok,hccl,hkok,hkcl,hM0,hMt,hMs,hMa,hMl,hMx,List.length_append,List.length_cons,List.length_nil,Nat.zero_add,ty,l_e3,ha5,hle4,hce1,hce2,hel5,hvo,hvc]
        rw [← hQ]
        simp only [ty]
        refine ⟨v2, g3 ++ ([sD] :: [.str x.name, cD, kD, fD, c] :: [.func 101 [.ptr (g3.length + 1) 0, .ptr (g3.length + 1 + 1) 0]] :: cb), tk5, _, ?_, hv5, ?_, (hg2.trans hpg).trans (List.prefix_append _ _)⟩
        · rw [hMm]; rfl
        have hag : ∀ (i : Nat) (z : List D), 0 < i → ([v] :: g3)[i]? = some z → ((Mm c cb).set 0 [v2])[i]? = some z := fun i z hi hz => by
          rw [List.getElem?_set_ne (by omega), hMm]
          show (([v] :: g3) ++ _)[i]? = some z
          rw [List.getElem?_append_left (List.getElem?_eq_some_iff.1 hz).1]; exact hz
        have hag2 : ∀ (i : Nat) (z : List D), 0 < i → ([v] :: g2)[i]? = some z → ([v] :: g3)[i]? = some z := fun i z hi hz => by
          obtain ⟨j, rfl⟩ : ∃ j, i = j + 1 := ⟨i - 1, by omega⟩
          have hz : g2[j]? = some z := hz
          obtain ⟨w, rfl⟩ := hpg
          show (g2 ++ w)[j]? = some z
          rw [List.getElem?_append_left (List.getElem?_eq_some_iff.1 hz).1]; exact hz
        refine ⟨cD, kds, fD, c, tk, by rw [hkD], ⟨hcn, (hcB.agree hag2).agree hag⟩, ⟨by rw [cn_items hal], ?_⟩, hst3, x.checks.items, rfl, by omega, ?_⟩
        · show KeysB _ kds (cn acc).items
          rw [cn_items hal]; exact hKB.agree hag
        have hkl : k3 = x.checks.items.length := by omega
        rcases hI with ⟨h0, hc0, _⟩ | ⟨hpos, cb0, hb0, hc0⟩
        · exact .inl ⟨List.eq_nil_of_length_eq_zero (by omega), hc0⟩
        · refine .inr ⟨fun e => by rw [e] at hkl; simp at hkl; omega, g3.length + 4 + cb0.length, by omega, by rw [hc0, hkl], ?_⟩
          show ((Mm c cb).set 0 [v2])[g3.length + 4 + cb0.length]? = _
          rw [List.getElem?_set_ne (by omega), hMc, hb0, List.take_of_length_le (by omega)]
          simp
      · repeat (first|(with_reducible first|refine q1 ?_|refine q2 ?_|refine q3 ?_|refine q4 ?_|refine q5 ?_|refine q6 ?_|refine q7 ?_|refine q8 ?_|refine q9 ?_|refine q10 ?_|refine q11 ?_|refine q12 (by decide) ?_)|((first|with_reducible refine q13 ?_|((with_reducible refine q14 ?_ ?_);focus exact rfl));intro K hK;simp +decide only[go_sem,reduceAdd,reduceMul,reduceSub,true_and,h50,h40,hok,hcl,hlen,c94,c95,htk,b1,b2,b3,b4];with_reducible refine hK _ ?_;clear hK K)|(with_reducible refine q15 ?_;intro K J hK hJ;simp +decide only[go_sem,reduceAdd,reduceMul,reduceSub,true_and,h50,h40,hok,hcl,hlen,c94,c95,htk,b1,b2,b3,b4];(with_reducible first|refine hK ?_|refine hJ ?_);clear hK hJ K J))
        simp +decide only[go_sem,reduceAdd,reduceMul,reduceSub,true_and,h50,h40,hok,hcl,hlen,c94,c95,htk,b1,b2,b3,b4]
    · repeat (first|(with_reducible first|refine q1 ?_|refine q2 ?_|refine q3 ?_|refine q4 ?_|refine q5 ?_|refine q6 ?_|refine q7 ?_|refine q8 ?_|refine q9 ?_|refine q10 ?_|refine q11 ?_|refine q12 (by decide) ?_)|((first|with_reducible refine q13 ?_|((with_reducible refine q14 ?_ ?_);focus exact rfl));intro K hK;simp +decide only[go_sem,reduceAdd,reduceMul,reduceSub,true_and,h50,h40,hok,hcl,hlen,c94,c95,htk,b1,b2,b3];with_reducible refine hK _ ?_;clear hK K)|(with_reducible refine q15 ?_;intro K J hK hJ;simp +decide only[go_sem,reduceAdd,reduceMul,reduceSub,true_and,h50,h40,hok,hcl,hlen,c94,c95,htk,b1,b2,b3];(with_reducible first|refine hK ?_|refine hJ ?_);clear hK hJ K J))
      simp +decide only[go_sem,reduceAdd,reduceMul,reduceSub,true_and,h50,h40,hok,hcl,hlen,c94,c95,htk,b1,b2,b3]
  · repeat (first|(with_reducible first|refine q1 ?_|refine q2 ?_|refine q3 ?_|refine q4 ?_|refine q5 ?_|refine q6 ?_|refine q7 ?_|refine q8 ?_|refine q9 ?_|refine q10 ?_|refine q11 ?_|refine q12 (by decide) ?_)|((first|with_reducible refine q13 ?_|((with_reducible refine q14 ?_ ?_);focus exact rfl));intro K hK;simp +decide only[go_sem,reduceAdd,reduceMul,reduceSub,true_and,h50,h40,hok,hcl,hlen,c94,c95,htk,b1];with_reducible refine hK _ ?_;clear hK K)|(with_reducible refine q15 ?_;intro K J hK hJ;simp +decide only[go_sem,reduceAdd,reduceMul,reduceSub,true_and,h50,h40,hok,hcl,hlen,c94,c95,htk,b1];(with_reducible first|refine hK ?_|refine hJ ?_);clear hK hJ K J))
    simp +decide only[go_sem,reduceAdd,reduceMul,reduceSub,true_and,h50,h40,hok,hcl,hlen,c94,c95,htk,b1]
end Go.Eng
