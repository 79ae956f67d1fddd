/- A part of the proof: see the last text. -/
import Derived.Test.YtcfmjomniaopcaaGreatDoorR2St
set_option linter.unusedSimpArgs false
set_option linter.unusedVariables false
/- schema.Statement, and the reference's comparison of statements (numbers of the seat of SchemaStatement). -/
namespace Go.Eng
open Go Go.Proofs
open Nat (reduceAdd reduceMul reduceSub)
set_option maxRecDepth 20000
set_option maxHeartbeats 32000000
variable {G : Nat → Option (List D)}
theorem names18 (t : Tbl) (l : Sl I64) (hl : l.items.length ≤ 100) (hin : inC t.cols.items l.items) : callP (XG G) TT 18 [encTbl t, sl 1 I l] = some (sl 1 S (cn (l.items.map (nameAt t.cols.items)))) := by
  rw [← out_cn 1 S (by rw [List.length_map]; omega)]
  refine callP_val T18 rfl (by simp only [go_sem]) ?_
  unfold Tryz.f18
  simp only [Option.getD_some]
  simp +decide only[go_sem,reduceAdd,reduceMul,reduceSub]
  refine gw trivial ?_
  refine wpI_loopC (T := Nat) [2, 5, 8, 9, 10] rfl (by simp +decide only[go_sem,reduceAdd,reduceMul,reduceSub]; exact rfl) (fun k => [(10, .int .i64 (k : Int)), (5, accD 1 (((l.items.take k).map (nameAt t.cols.items)).map S))]) (fun _ => []) (fun k => ⟨[], accT (((l.items.take k).map (nameAt t.cols.items)).map S)⟩) (fun k => k ≤ l.items.length) (fun k => l.items.length - k) 0 (by simp +decide only[go_sem,reduceAdd,reduceMul,reduceSub] <;> rfl) (by simp) ?_
  rintro k hk
  by_cases h : k < l.items.length
  · have l_x : ((k : Int) < ((l.items).length : Int)) = True := by simp; omega
    obtain ⟨x, g_x⟩ : ∃ a_, (l.items)[k]? = some a_ := ⟨_, List.getElem?_eq_getElem (by assumption)⟩
    have w_x := wrap_nat k (by omega)
    obtain ⟨c, hc⟩ := hin x (List.mem_of_getElem? g_x)
    have hl : ((((l.items.take k).map (nameAt t.cols.items)).map S).length + 1 ≤ 16777216) = True := by
      have : (((l.items.take k).map (nameAt t.cols.items)).map S).length ≤ l.items.length := by simp only [List.length_map]; exact List.length_take_le' ..
      simp only [eq_iff_iff, iff_true]; omega
    refine gw (an l_x (an g_x (an w_x (an hl hc)))) ?_
    refine ⟨k + 1, ?_, by omega, by omega⟩
    rw [List.take_add_one, g_x, List.map_append, List.map_append]
    simp only [Option.toList_some, List.map_cons, List.map_nil, nameAt_some hc]
    exact by simp +decide only[go_sem,reduceAdd,reduceMul,reduceSub,l_x,g_x,w_x] <;> rfl
  · have l_x : ((k : Int) < ((l.items).length : Int)) = False := by simp; omega
    rw [List.take_of_length_le (by omega)]
    refine gw l_x ?_
    simp +decide only[go_sem,reduceAdd,reduceMul,reduceSub,l_x]
    exact strip_acc (strip_Ss _)
/-- Out of range, or of a schema that is not valid. -/
theorem stm6_no (s : Sl Tbl) (n : Int) (b : Bool) (hv : callP (XG GK) TT 16 [sl 5 encTbl s] = some (.bool b)) (h : n < 0 ∨ (s.items.length : Int) ≤ n ∨ b = false) : callP (XG GK) TT 6 [sl 5 encTbl s, .int .i64 n] = some (.tuple [encStm zeroS, .bool false]) := by
  refine callP_val T6 rfl (by simp only [go_sem]) ?_
  unfold Tryz.f6
  simp only [Option.getD_some]
  simp +decide only[go_sem,reduceAdd,reduceMul,reduceSub,hv]
  by_cases h1 : n < 0
  · refine gw (an hv h1) ?_
    simp +decide only[go_sem,reduceAdd,reduceMul,reduceSub,hv,h1]
    all_goals first | rfl | exact ⟨rfl, rfl⟩
  by_cases h2 : (s.items.length : Int) ≤ n
  · refine gw (an hv (an h1 h2)) ?_
    simp +decide only[go_sem,reduceAdd,reduceMul,reduceSub,hv,h1,h2]
    all_goals first | rfl | exact ⟨rfl, rfl⟩
  · have hb : b = false := by rcases h with h | h | h <;> first | exact h | exact absurd h (by assumption)
    subst hb
    refine gw (an hv (an h1 h2)) ?_
    simp +decide only[go_sem,reduceAdd,reduceMul,reduceSub,hv,h1,h2]
    all_goals first | rfl | exact ⟨rfl, rfl⟩
theorem stm6 (s : Sl Tbl) (n : Nat) (t : Tbl) (ht : s.items[n]? = some t) (hs : SmallT t) (hv : callP (XG GK) TT 16 [sl 5 encTbl s] = some (.bool true)) (hne : t.cols.items ≠ []) (hk : ∀ k ∈ t.keys.items, inC t.cols.items k.items) (hf : ∀ f ∈ t.fgns.items, FgI s.items t f) :
    callP (XG GK) TT 6 [sl 5 encTbl s, .int .i64 (n : Int)] = some (.tuple [encStm (stS s.items t), .bool true]) := by
  obtain ⟨x1, x2, x3, x4, x5, x6, x7, x8, x9⟩ := hs
  have hn : n < s.items.length := (List.getElem?_eq_some_iff.1 ht).1
  have hkl := t.keys.lt
  have hfl := t.fgns.lt
  have hcl := t.checks.lt
  refine callP_val T6 rfl (by simp only [go_sem]) ?_
  unfold Tryz.f6
  simp only [Option.getD_some]
  have h1 : ((n : Int) < 0) = False := eq_false (by omega)
  have h2 : ((s.items.length : Int) ≤ (n : Int)) = False := eq_false (by omega)
  have c17 := clone96 t.cols ⟨[], []⟩ (by omega) hne
  have hcs : ∀ q, stripF q (accN [] 6 (t.cols.items.map encCol)) = sl 6 encCol t.cols := fun q => by
    rw [strip_accN (stripFL_map encCol (fun _ => rfl) _)]
    clear x1 x2 x3 x4 x5 x6 x7 x8 x9 hk hf c17 ht
    generalize t.cols = o at *
    obtain ⟨o, ho⟩ := o
    cases o with
    | none => exact absurd rfl hne
    | some l =>
      cases l with
      | nil => exact absurd rfl hne
      | cons a r => rfl
  have hcok := okC_accN [] 6 (t.cols.items.map encCol)
  have hccl := cells_accN [] 6 (t.cols.items.map encCol)
  generalize hcD : accN [] 6 (t.cols.items.map encCol) = cD at *
  generalize hT0 : accM [] (t.cols.items.map encCol) = tk0 at *
  simp +decide only[go_sem,reduceAdd,reduceMul,reduceSub,ht,hv,h1,h2,c17,hcok,hccl]
  refine gw (an ht (an hv (an h1 (an h2 (an c17 (an hcok hccl)))))) ?_
  refine wpI_loopC (T := Nat) [0, 4, 6, 7, 38, 39, 40] rfl (by simp +decide only[go_sem,reduceAdd,reduceMul,reduceSub,ht,hv,h1,h2,c17,hcok,hccl]; exact rfl) (fun k => [(40, .int .i64 (k : Int))]) (fun k => [(7, [cD, accN tk0 1 (((t.keys.items.take k).map (kn t)).map (sl 1 S)), .nil, .nil])]) (fun k => ⟨[], accM tk0 (((t.keys.items.take k).map (kn t)).map (sl 1 S))⟩) (fun k => k ≤ t.keys.items.length) (fun k => t.keys.items.length - k) 0 (by simp +decide only[go_sem,reduceAdd,reduceMul,reduceSub,ht,hv,h1,h2,c17,hcok,hccl] <;> rfl) (by simp) ?_
  rintro k hkk
  by_cases h : k < t.keys.items.length
  · have l_y : ((k : Int) < ((t.keys.items).length : Int)) = True := by simp; omega
    obtain ⟨y, g_y⟩ : ∃ a_, (t.keys.items)[k]? = some a_ := ⟨_, List.getElem?_eq_getElem (by assumption)⟩
    have w_y := wrap_nat k (by omega)
    have c1 := names18 (G := GK) t y (by have := x5 y (List.mem_of_getElem? g_y); omega) (hk y (List.mem_of_getElem? g_y))
    simp only [encTbl_eq] at c1
    have hle : ((((t.keys.items.take k).map (kn t)).map (sl 1 S)).length + 1 ≤ 16777216) = True := by
      have : (((t.keys.items.take k).map (kn t)).map (sl 1 S)).length ≤ t.keys.items.length := by simp only [List.length_map]; exact List.length_take_le' ..
      simp only [eq_iff_iff, iff_true]; omega
    refine gw (an ht (an hv (an h1 (an h2 (an c17 (an hcok (an hccl (an l_y (an g_y (an w_y (an c1 hle))))))))))) ?_
    refine ⟨k + 1, ?_, by omega, by omega⟩
    rw [List.take_add_one, g_y, List.map_append, List.map_append]
    simp only [Option.toList_some, List.map_cons, List.map_nil, kn]
    exact by simp +decide only[go_sem,reduceAdd,reduceMul,reduceSub,ht,hv,h1,h2,c17,hcok,hccl,l_y,g_y,w_y] <;> rfl
  have l_e1 : ((k : Int) < ((t.keys.items).length : Int)) = False := by simp; omega
  rw [List.take_of_length_le (by omega)]
  have hkst : ∀ q, stripF q (accN tk0 1 ((t.keys.items.map (kn t)).map (sl 1 S))) = sl 1 (sl 1 S) (cn (t.keys.items.map (kn t))) := fun q => by rw [strip_accN (stripFL_map _ (fun y => strip_slS 1 y) _), out_cn _ _ (by rw [List.length_map]; omega)]
  have hkok := okC_accN tk0 1 ((t.keys.items.map (kn t)).map (sl 1 S))
  have hkc := cells_accN tk0 1 ((t.keys.items.map (kn t)).map (sl 1 S))
  generalize hK : accN tk0 1 ((t.keys.items.map (kn t)).map (sl 1 S)) = kD at *
  generalize hT : accM tk0 ((t.keys.items.map (kn t)).map (sl 1 S)) = tk at *
  refine gw (an ht (an hv (an h1 (an h2 (an c17 (an hcok (an hccl (an l_e1 (an hkok hkc))))))))) ?_
  refine wpI_loopC (T := Nat) [0, 4, 6, 7, 54, 55, 56] rfl (by simp +decide only[go_sem,reduceAdd,reduceMul,reduceSub,ht,hv,h1,h2,c17,hcok,hccl,l_e1,hkok,hkc]; exact rfl) (fun k => [(56, .int .i64 (k : Int))]) (fun k => [(7, [cD, kD, accN tk 3 (((t.fgns.items.take k).map (fgS s.items t)).map encFgS), .nil])]) (fun k => ⟨[], accM tk (((t.fgns.items.take k).map (fgS s.items t)).map encFgS)⟩) (fun k => k ≤ t.fgns.items.length) (fun k => t.fgns.items.length - k) 0 (by simp +decide only[go_sem,reduceAdd,reduceMul,reduceSub,ht,hv,h1,h2,c17,hcok,hccl,l_e1,hkok,hkc] <;> rfl) (by simp) ?_
  rintro k hkk
  by_cases h : k < t.fgns.items.length
  · have l_y : ((k : Int) < ((t.fgns.items).length : Int)) = True := by simp; omega
    obtain ⟨y, g_y⟩ : ∃ a_, (t.fgns.items)[k]? = some a_ := ⟨_, List.getElem?_eq_getElem (by assumption)⟩
    have w_y := wrap_nat k (by omega)
    obtain ⟨f1, u, z, f2, f3, f4, f5⟩ := hf y (List.mem_of_getElem? g_y)
    have c1 := names18 (G := GK) t y.cols (by have := x6 y (List.mem_of_getElem? g_y); omega) f1
    have c2 := names18 (G := GK) u z f5 f4
    simp only [encTbl_eq] at c1 c2
    have hle : ((((t.fgns.items.take k).map (fgS s.items t)).map encFgS).length + 1 ≤ 16777216) = True := by
      have : (((t.fgns.items.take k).map (fgS s.items t)).map encFgS).length ≤ t.fgns.items.length := by simp only [List.length_map]; exact List.length_take_le' ..
      simp only [eq_iff_iff, iff_true]; omega
    refine gw (an ht (an hv (an h1 (an h2 (an c17 (an hcok (an hccl (an l_e1 (an hkok (an hkc (an l_y (an g_y (an w_y (an c1 (an c2 (an f2 (an f3 hle))))))))))))))))) ?_
    refine ⟨k + 1, ?_, by omega, by omega⟩
    rw [List.take_add_one, g_y, List.map_append, List.map_append]
    simp only [Option.toList_some, List.map_cons, List.map_nil, fgS, f2, f3, kn]
    exact by simp +decide only[go_sem,reduceAdd,reduceMul,reduceSub,ht,hv,h1,h2,c17,hcok,hccl,l_e1,hkok,hkc,l_y,g_y,w_y] <;> rfl
  have l_e2 : ((k : Int) < ((t.fgns.items).length : Int)) = False := by simp; omega
  rw [List.take_of_length_le (by omega)]
  have hfst : ∀ q, stripF q (accN tk 3 ((t.fgns.items.map (fgS s.items t)).map encFgS)) = sl 3 encFgS (cn (t.fgns.items.map (fgS s.items t))) := fun q => by rw [strip_accN (stripFL_map _ (fun y => strip_FgS y) _), out_cn _ _ (by rw [List.length_map]; omega)]
  have hfok := okC_accN tk 3 ((t.fgns.items.map (fgS s.items t)).map encFgS)
  have hfc := cells_accN tk 3 ((t.fgns.items.map (fgS s.items t)).map encFgS)
  generalize hF : accN tk 3 ((t.fgns.items.map (fgS s.items t)).map encFgS) = fD at *
  generalize hT2 : accM tk ((t.fgns.items.map (fgS s.items t)).map encFgS) = tk2 at *
  refine gw (an ht (an hv (an h1 (an h2 (an c17 (an hcok (an hccl (an l_e1 (an hkok (an hkc (an l_e2 (an hfok hfc)))))))))))) ?_
  refine wpI_loopC (T := Nat) [4, 6, 7, 87, 88, 89] rfl (by simp +decide only[go_sem,reduceAdd,reduceMul,reduceSub,ht,hv,h1,h2,c17,hcok,hccl,l_e1,hkok,hkc,l_e2,hfok,hfc]; exact rfl) (fun k => [(89, .int .i64 (k : Int))]) (fun k => [(7, [cD, kD, fD, accN tk2 8 ((t.checks.items.take k).map encEx)])]) (fun k => ⟨[], accM tk2 ((t.checks.items.take k).map encEx)⟩) (fun k => k ≤ t.checks.items.length) (fun k => t.checks.items.length - k) 0 (by simp +decide only[go_sem,reduceAdd,reduceMul,reduceSub,ht,hv,h1,h2,c17,hcok,hccl,l_e1,hkok,hkc,l_e2,hfok,hfc] <;> rfl) (by simp) ?_
  rintro k hkk
  by_cases h : k < t.checks.items.length
  · have l_y : ((k : Int) < ((t.checks.items).length : Int)) = True := by simp; omega
    obtain ⟨y, g_y⟩ : ∃ a_, (t.checks.items)[k]? = some a_ := ⟨_, List.getElem?_eq_getElem (by assumption)⟩
    have w_y := wrap_nat k (by omega)
    have hcp := copy103 y (x9 y (List.mem_of_getElem? g_y))
    have hyc : D.agg (encEx y).cells = encEx y := by
      obtain ⟨r, he, _⟩ := y.open
      rw [he]; rfl
    have hyok : (encEx y).okC = true := by
      obtain ⟨r, he, _⟩ := y.open
      rw [he]; rfl
    have hsr : setRow [.int .i64 0, .str [], .str [], .int .i64 0, .int .i64 0, .int .i64 0, .str [], .nil] 0 (encEx y).cells = (encEx y).cells := by
      obtain ⟨r, he, _⟩ := y.open
      rw [he]; rfl
    have hle : (((t.checks.items.take k).map encEx).length + 1 ≤ 16777216) = True := by
      have : ((t.checks.items.take k).map encEx).length ≤ t.checks.items.length := by simp only [List.length_map]; exact List.length_take_le' ..
      simp only [eq_iff_iff, iff_true]; omega
    refine gw (an ht (an hv (an h1 (an h2 (an c17 (an hcok (an hccl (an l_e1 (an hkok (an hkc (an l_e2 (an hfok (an hfc (an l_y (an g_y (an w_y (an hcp (an hyc (an hyok (an hsr hle)))))))))))))))))))) ?_
    refine ⟨k + 1, ?_, by omega, by omega⟩
    rw [List.take_add_one, g_y, List.map_append]
    simp only [Option.toList_some, List.map_cons, List.map_nil]
    exact by simp +decide only[go_sem,reduceAdd,reduceMul,reduceSub,ht,hv,h1,h2,c17,hcok,hccl,l_e1,hkok,hkc,l_e2,hfok,hfc,l_y,g_y,w_y,hcp,hyc,hyok,hsr,hle] <;> rfl
  have l_e3 : ((k : Int) < ((t.checks.items).length : Int)) = False := by simp; omega
  rw [List.take_of_length_le (by omega)]
  have hest : ∀ q, stripF q (accN tk2 8 (t.checks.items.map encEx)) = sl 8 encEx (cn t.checks.items) := fun q => by rw [strip_accN (stripFL_map _ (fun y => strip_Ex y) _), out_cn _ _ hcl]
  have heok := okC_accN tk2 8 (t.checks.items.map encEx)
  have hec := cells_accN tk2 8 (t.checks.items.map encEx)
  refine gw (an ht (an hv (an h1 (an h2 (an c17 (an hcok (an hccl (an l_e1 (an hkok (an hkc (an l_e2 (an hfok (an hfc (an l_e3 (an heok hec))))))))))))))) ?_
  simp +decide only[go_sem,reduceAdd,reduceMul,reduceSub,ht,hv,h1,h2,c17,hcok,hccl,l_e1,hkok,hkc,l_e2,hfok,hfc,l_e3,heok,hec,hcs,hkst,hfst,hest]
  all_goals rfl
theorem create8 (a b : Stm) (hab : AlikeS a b) : callP (XG GK) TT 8 [encStm a, encStm b] = some (.bool true) := by
  obtain ⟨h1, h2, h3, h4, h5, h6⟩ := hab
  have c1 := cols60 a.cols b.cols h3
  have c2 := exprs61 a.checks b.checks h4
  have hkl := h5.1.symm
  have hfl := h6.1.symm
  have hkt := a.keys.lt
  have hft := a.fgns.lt
  have e1 := h1.symm
  have e2 := h2.symm
  have htka : List.take 16 a.rest.1 = a.rest.1 := List.take_of_length_le (by rw [rest_len]; exact Nat.le_refl _)
  have htkb : List.take 16 b.rest.1 = b.rest.1 := List.take_of_length_le (by rw [rest_len]; exact Nat.le_refl _)
  refine callP_val T8 rfl (by simp only [go_sem, strip_Stm]) ?_
  unfold Tryz.f8
  simp only [Option.getD_some]
  simp +decide only[go_sem,reduceAdd,reduceMul,reduceSub,e1,e2,hkl,hfl,bneI,c1,c2,htka,htkb]
  repeat (first|(with_reducible first|refine q1 ?_|refine q2 ?_|refine q3 ?_|refine q4 ?_|refine q5 ?_|refine q6 ?_|refine q7 ?_|refine q8 ?_|refine q9 ?_|refine q10 ?_|refine q11 ?_|refine q12 (by decide) ?_)|((first|with_reducible refine q13 ?_|((with_reducible refine q14 ?_ ?_);focus exact rfl));intro K hK;simp +decide only[go_sem,reduceAdd,reduceMul,reduceSub,e1,e2,hkl,hfl,bneI,c1,c2,htka,htkb];with_reducible refine hK _ ?_;clear hK K)|(with_reducible refine q15 ?_;intro K J hK hJ;simp +decide only[go_sem,reduceAdd,reduceMul,reduceSub,e1,e2,hkl,hfl,bneI,c1,c2,htka,htkb];(with_reducible first|refine hK ?_|refine hJ ?_);clear hK hJ K J))
  refine wpI_loopC (T := Nat) [5, 6, 7] rfl (by simp +decide only[go_sem,reduceAdd,reduceMul,reduceSub,e1,e2,hkl,hfl,bneI,c1,c2,htka,htkb]; exact rfl) (fun k => [(7, .int .i64 (k : Int))]) (fun _ => []) (fun _ => ⟨[], []⟩) (fun k => k ≤ a.keys.items.length) (fun k => a.keys.items.length - k) 0 (by simp +decide only[go_sem,reduceAdd,reduceMul,reduceSub,e1,e2,hkl,hfl,bneI,c1,c2,htka,htkb] <;> rfl) (by simp) ?_
  rintro k hk
  by_cases h : k < a.keys.items.length
  · have l_x : ((k : Int) < ((a.keys.items).length : Int)) = True := by simp; omega
    obtain ⟨x, g_x⟩ : ∃ a_, (a.keys.items)[k]? = some a_ := ⟨_, List.getElem?_eq_getElem (by assumption)⟩
    have w_x := wrap_nat k (by omega)
    obtain ⟨y, g_y, hxy⟩ := alike_get h5 g_x
    have c3 := texts107 (G := GK) x y
    rw [← hxy, eqS_refl] at c3
    repeat (first|(with_reducible first|refine q1 ?_|refine q2 ?_|refine q3 ?_|refine q4 ?_|refine q5 ?_|refine q6 ?_|refine q7 ?_|refine q8 ?_|refine q9 ?_|refine q10 ?_|refine q11 ?_|refine q12 (by decide) ?_)|((first|with_reducible refine q13 ?_|((with_reducible refine q14 ?_ ?_);focus exact rfl));intro K hK;simp +decide only[go_sem,reduceAdd,reduceMul,reduceSub,e1,e2,hkl,hfl,bneI,c1,c2,htka,htkb,l_x,g_x,w_x,g_y,c3];with_reducible refine hK _ ?_;clear hK K)|(with_reducible refine q15 ?_;intro K J hK hJ;simp +decide only[go_sem,reduceAdd,reduceMul,reduceSub,e1,e2,hkl,hfl,bneI,c1,c2,htka,htkb,l_x,g_x,w_x,g_y,c3];(with_reducible first|refine hK ?_|refine hJ ?_);clear hK hJ K J))
    exact ⟨(k + 1), by simp +decide only[go_sem,reduceAdd,reduceMul,reduceSub,e1,e2,hkl,hfl,bneI,c1,c2,htka,htkb,l_x,g_x,w_x] <;> rfl, by omega, by omega⟩
  have l_e3 : ((k : Int) < ((a.keys.items).length : Int)) = False := by simp; omega
  repeat (first|(with_reducible first|refine q1 ?_|refine q2 ?_|refine q3 ?_|refine q4 ?_|refine q5 ?_|refine q6 ?_|refine q7 ?_|refine q8 ?_|refine q9 ?_|refine q10 ?_|refine q11 ?_|refine q12 (by decide) ?_)|((first|with_reducible refine q13 ?_|((with_reducible refine q14 ?_ ?_);focus exact rfl));intro K hK;simp +decide only[go_sem,reduceAdd,reduceMul,reduceSub,e1,e2,hkl,hfl,bneI,c1,c2,htka,htkb,l_e3];with_reducible refine hK _ ?_;clear hK K)|(with_reducible refine q15 ?_;intro K J hK hJ;simp +decide only[go_sem,reduceAdd,reduceMul,reduceSub,e1,e2,hkl,hfl,bneI,c1,c2,htka,htkb,l_e3];(with_reducible first|refine hK ?_|refine hJ ?_);clear hK hJ K J))
  refine wpI_loopC (T := Nat) [5, 6, 8] rfl (by simp +decide only[go_sem,reduceAdd,reduceMul,reduceSub,e1,e2,hkl,hfl,bneI,c1,c2,htka,htkb,l_e3]; exact rfl) (fun k => [(8, .int .i64 (k : Int))]) (fun _ => []) (fun _ => ⟨[], []⟩) (fun k => k ≤ a.fgns.items.length) (fun k => a.fgns.items.length - k) 0 (by simp +decide only[go_sem,reduceAdd,reduceMul,reduceSub,e1,e2,hkl,hfl,bneI,c1,c2,htka,htkb,l_e3] <;> rfl) (by simp) ?_
  rintro k2 hk2
  by_cases h : k2 < a.fgns.items.length
  · have l_x : ((k2 : Int) < ((a.fgns.items).length : Int)) = True := by simp; omega
    obtain ⟨x, g_x⟩ : ∃ a_, (a.fgns.items)[k2]? = some a_ := ⟨_, List.getElem?_eq_getElem (by assumption)⟩
    have w_x := wrap_nat k2 (by omega)
    obtain ⟨y, g_y, y1, y2, y3⟩ := alike_get h6 g_x
    have c3 := texts107 (G := GK) x.cols y.cols
    rw [← y1, eqS_refl] at c3
    have c4 := texts107 (G := GK) x.refs y.refs
    rw [← y3, eqS_refl] at c4
    have e4 := y2.symm
    repeat (first|(with_reducible first|refine q1 ?_|refine q2 ?_|refine q3 ?_|refine q4 ?_|refine q5 ?_|refine q6 ?_|refine q7 ?_|refine q8 ?_|refine q9 ?_|refine q10 ?_|refine q11 ?_|refine q12 (by decide) ?_)|((first|with_reducible refine q13 ?_|((with_reducible refine q14 ?_ ?_);focus exact rfl));intro K hK;simp +decide only[go_sem,reduceAdd,reduceMul,reduceSub,e1,e2,hkl,hfl,bneI,c1,c2,htka,htkb,l_e3,l_x,g_x,w_x,g_y,c3,c4,e4];with_reducible refine hK _ ?_;clear hK K)|(with_reducible refine q15 ?_;intro K J hK hJ;simp +decide only[go_sem,reduceAdd,reduceMul,reduceSub,e1,e2,hkl,hfl,bneI,c1,c2,htka,htkb,l_e3,l_x,g_x,w_x,g_y,c3,c4,e4];(with_reducible first|refine hK ?_|refine hJ ?_);clear hK hJ K J))
    exact ⟨(k2 + 1), by simp +decide only[go_sem,reduceAdd,reduceMul,reduceSub,e1,e2,hkl,hfl,bneI,c1,c2,htka,htkb,l_e3,l_x,g_x,w_x] <;> rfl, by omega, by omega⟩
  have l_e5 : ((k2 : Int) < ((a.fgns.items).length : Int)) = False := by simp; omega
  repeat (first|(with_reducible first|refine q1 ?_|refine q2 ?_|refine q3 ?_|refine q4 ?_|refine q5 ?_|refine q6 ?_|refine q7 ?_|refine q8 ?_|refine q9 ?_|refine q10 ?_|refine q11 ?_|refine q12 (by decide) ?_)|((first|with_reducible refine q13 ?_|((with_reducible refine q14 ?_ ?_);focus exact rfl));intro K hK;simp +decide only[go_sem,reduceAdd,reduceMul,reduceSub,e1,e2,hkl,hfl,bneI,c1,c2,htka,htkb,l_e3,l_e5];with_reducible refine hK _ ?_;clear hK K)|(with_reducible refine q15 ?_;intro K J hK hJ;simp +decide only[go_sem,reduceAdd,reduceMul,reduceSub,e1,e2,hkl,hfl,bneI,c1,c2,htka,htkb,l_e3,l_e5];(with_reducible first|refine hK ?_|refine hJ ?_);clear hK hJ K J))
  simp +decide only[go_sem,reduceAdd,reduceMul,reduceSub,e1,e2,hkl,hfl,bneI,c1,c2,htka,htkb,l_e3,l_e5]
end Go.Eng
