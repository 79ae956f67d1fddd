/- A part of the proof: see the last text. -/
import Derived.Test.YtcfmjomniaopcaaDoorR2Tbl
import Derived.Test.YtcfmjomniaopcaaDoorKR2Valid2
set_option linter.unusedSimpArgs false
set_option linter.unusedVariables false
/- The reference's Build. -/
namespace Go.Eng
open Go Go.Proofs
open Nat (reduceAdd reduceMul reduceSub)
set_option maxRecDepth 20000
set_option maxHeartbeats 32000000
def stepR (s : List Tbl) (x : Stm) : Except Int Tbl :=
  bif x.kind.1 != 1 then .error 1 else bif decide (8 ≤ s.length) || bigB x then .error 3 else bif okB x then (bif exB s x then .error 5 else
    match tabR s x with
    | some (t, e) => (match e == 0 with | true => .ok t | false => .error e)
    | none => .error 4) else .error 1
/-- The tables of statements. -/
def bldF (step : List Tbl → Stm → Except Int Tbl) (s : List Tbl) : List Stm → Except (Nat × Int) (List Tbl)
  | [] => .ok s
  | x :: r => match step s x with
    | .ok t => bldF step (s ++ [t]) r
    | .error e => .error (s.length, e)
def bldT : Except (Nat × Int) (List Tbl) → D
  | .ok s => .tuple [sl 5 encTbl (cn s), .int .i64 0, .int .i64 0]
  | .error (i, e) => .tuple [.nil, .int .i64 (i : Int), .int .i64 e]
theorem bld22 (l : Sl Stm) (hn : l.items.length ≤ 12) (hl : ∀ x ∈ l.items, SmallS x) : callP (XG GK) TT 22 [sl 22 encStm l] = some (bldT (bldF stepR [] l.items)) := by
  refine callP_val T22 rfl (by simp only [go_sem]) ?_
  unfold Tryd.f22
  simp only [Option.getD_some]
  simp +decide only[go_sem,reduceAdd,reduceMul,reduceSub]
  refine gw trivial ?_
  refine wpI_loopC (T := Nat × List Tbl) [0, 5, 6] rfl (by simp +decide only[go_sem,reduceAdd,reduceMul,reduceSub]; exact rfl) (fun p => [(6, .int .i64 (p.1 : Int)), (5, accN [] 5 (p.2.map encTbl))]) (fun _ => []) (fun p => ⟨[], accM [] (p.2.map encTbl)⟩) (fun p => p.1 ≤ l.items.length ∧ p.2.length = p.1 ∧ bldF stepR p.2 (l.items.drop p.1) = bldF stepR [] l.items) (fun p => l.items.length - p.1) (0, []) (by simp +decide only[go_sem,reduceAdd,reduceMul,reduceSub] <;> rfl) (by simp) ?_
  rintro ⟨k, s⟩ ⟨hk, hs, hP⟩
  simp only at hk hs hP ⊢
  have hsl : s.length < 4611686018427387904 := by omega
  have hst : ∀ g, stripF g (accN [] 5 (s.map encTbl)) = sl 5 encTbl (cn s) := fun g => by rw [strip_accN (stripFL_map _ (fun y => strip_Tbl y) _), out_cn _ _ hsl]
  by_cases h : k < l.items.length
  · have hlt := l.lt
    have l_x : ((k : Int) < ((l.items).length : Int)) = True := by simp; omega
    obtain ⟨x, g_x⟩ : ∃ a_, (l.items)[k]? = some a_ := ⟨_, List.getElem?_eq_getElem (by assumption)⟩
    have w_x := wrap_nat k (by omega)
    rw [dropc g_x, bldF, stepR] at hP
    have hx := hl x (List.mem_of_getElem? g_x)
    have c57 := inv57 x hx
    have c58 := ex58 (cn s) x hx
    rw [cn_items hsl] at c58
    simp only [encStm_eq] at c57 c58
    have htk : List.take 16 x.rest.1 = x.rest.1 := List.take_of_length_le (by rw [rest_len]; exact Nat.le_refl _)
    cases b1 : (x.kind.1 != 1)
    · rw [b1, cond_false] at hP
      by_cases b2 : (8 : Int) ≤ (k : Int)
      · rw [decide_eq_true (show 8 ≤ s.length by omega), Bool.true_or, cond_true] at hP
        refine gw (an hst (an l_x (an g_x (an w_x (an c57 (an c58 (an htk (an b1 b2)))))))) ?_
        simp +decide only[go_sem,reduceAdd,reduceMul,reduceSub,hst,l_x,g_x,w_x,c57,c58,htk,b1,b2]
        rw [← hP, hs]; rfl
      rw [decide_eq_false (show ¬ 8 ≤ s.length by omega), Bool.false_or, bigB] at hP
      by_cases b3 : (8 : Int) < (x.cols.items.length : Int)
      · rw [decide_eq_true (show 8 < x.cols.items.length by omega), Bool.true_or, cond_true] at hP
        refine gw (an hst (an l_x (an g_x (an w_x (an c57 (an c58 (an htk (an b1 (an b2 b3))))))))) ?_
        simp +decide only[go_sem,reduceAdd,reduceMul,reduceSub,hst,l_x,g_x,w_x,c57,c58,htk,b1,b2,b3]
        rw [← hP, hs]; rfl
      rw [decide_eq_false (show ¬ 8 < x.cols.items.length by omega), Bool.false_or] at hP
      by_cases b4 : (4 : Int) < (x.keys.items.length : Int)
      · rw [decide_eq_true (show 4 < x.keys.items.length by omega), Bool.true_or, cond_true] at hP
        refine gw (an hst (an l_x (an g_x (an w_x (an c57 (an c58 (an htk (an b1 (an b2 (an b3 b4)))))))))) ?_
        simp +decide only[go_sem,reduceAdd,reduceMul,reduceSub,hst,l_x,g_x,w_x,c57,c58,htk,b1,b2,b3,b4]
        rw [← hP, hs]; rfl
      rw [decide_eq_false (show ¬ 4 < x.keys.items.length by omega), Bool.false_or] at hP
      by_cases b5 : (4 : Int) < (x.fgns.items.length : Int)
      · rw [decide_eq_true (show 4 < x.fgns.items.length by omega), Bool.true_or, cond_true] at hP
        refine gw (an hst (an l_x (an g_x (an w_x (an c57 (an c58 (an htk (an b1 (an b2 (an b3 (an b4 b5))))))))))) ?_
        simp +decide only[go_sem,reduceAdd,reduceMul,reduceSub,hst,l_x,g_x,w_x,c57,c58,htk,b1,b2,b3,b4,b5]
        rw [← hP, hs]; rfl
      rw [decide_eq_false (show ¬ 4 < x.fgns.items.length by omega), Bool.false_or] at hP
      by_cases b6 : (4 : Int) < (x.checks.items.length : Int)
      · rw [decide_eq_true (show 4 < x.checks.items.length by omega), cond_true] at hP
        refine gw (an hst (an l_x (an g_x (an w_x (an c57 (an c58 (an htk (an b1 (an b2 (an b3 (an b4 (an b5 b6)))))))))))) ?_
        simp +decide only[go_sem,reduceAdd,reduceMul,reduceSub,hst,l_x,g_x,w_x,c57,c58,htk,b1,b2,b3,b4,b5,b6]
        rw [← hP, hs]; rfl
      rw [decide_eq_false (show ¬ 4 < x.checks.items.length by omega), cond_false] at hP
      cases b7 : (okB x)
      · rw [b7, cond_false] at hP
        simp only [b7, Bool.not_false] at c57
        refine gw (an hst (an l_x (an g_x (an w_x (an c57 (an c58 (an htk (an b1 (an b2 (an b3 (an b4 (an b5 (an b6 b7))))))))))))) ?_
        simp +decide only[go_sem,reduceAdd,reduceMul,reduceSub,hst,l_x,g_x,w_x,c57,c58,htk,b1,b2,b3,b4,b5,b6,b7]
        rw [← hP, hs]; rfl
      rw [b7, cond_true] at hP
      simp only [b7, Bool.not_true] at c57
      cases b8 : (exB s x)
      · rw [b8, cond_false] at hP
        have hok : x.fgns.items.all fgB = true := by
          simp only [okB, Bool.and_eq_true] at b7; exact b7.2.2.2.2
        have c59 := tab59 (cn s) x hx hok (by rw [cn_items hsl]; omega)
        rw [cn_items hsl] at c59
        simp only [encStm_eq] at c59
        generalize tabR s x = o at *
        cases o with
        | none =>
          simp only [tabT] at c59
          refine gw (an hst (an l_x (an g_x (an w_x (an c57 (an c58 (an htk (an b1 (an b2 (an b3 (an b4 (an b5 (an b6 (an b7 (an b8 c59))))))))))))))) ?_
          simp +decide only[go_sem,reduceAdd,reduceMul,reduceSub,hst,l_x,g_x,w_x,c57,c58,htk,b1,b2,b3,b4,b5,b6,b7,b8,c59]
          rw [← hP, hs]; rfl
        | some te =>
          obtain ⟨t, e⟩ := te
          dsimp only at hP
          by_cases he : e = 0
          · subst he
            simp only [tabT, encTbl_eq] at c59
            have hle : ((s.map encTbl).length + 1 ≤ 16777216) = True := eq_true (by rw [List.length_map]; omega)
            refine gw (an hst (an l_x (an g_x (an w_x (an c57 (an c58 (an htk (an b1 (an b2 (an b3 (an b4 (an b5 (an b6 (an b7 (an b8 (an c59 hle)))))))))))))))) ?_
            refine ⟨(k + 1, s ++ [t]), ?_, ⟨by simp only; omega, by simp [hs], hP⟩, by simp only; omega⟩
            rw [List.map_append, List.map_cons, List.map_nil, encTbl_eq]
            exact by simp +decide only[go_sem,reduceAdd,reduceMul,reduceSub,hst,l_x,g_x,w_x,c57,c58,htk,b1,b2,b3,b4,b5,b6,b7,b8,c59] <;> rfl
          · have he2 := bneT he
            have hT : tabT (some (t, e)) = .tuple [.agg [.str [], .nil, .nil, .nil, .nil], .int .i64 e] := by
              unfold tabT
              split
              · rename_i h; cases h; exact absurd rfl he
              · rename_i h; cases h; rfl
              · rename_i h; cases h
            rw [hT] at c59
            refine gw (an hst (an l_x (an g_x (an w_x (an c57 (an c58 (an htk (an b1 (an b2 (an b3 (an b4 (an b5 (an b6 (an b7 (an b8 (an c59 he2)))))))))))))))) ?_
            simp +decide only[go_sem,reduceAdd,reduceMul,reduceSub,hst,l_x,g_x,w_x,c57,c58,htk,b1,b2,b3,b4,b5,b6,b7,b8,c59]
            rw [beqF he] at hP
            rw [← hP, hs]; rfl
      · rw [b8, cond_true] at hP
        refine gw (an hst (an l_x (an g_x (an w_x (an c57 (an c58 (an htk (an b1 (an b2 (an b3 (an b4 (an b5 (an b6 (an b7 b8)))))))))))))) ?_
        simp +decide only[go_sem,reduceAdd,reduceMul,reduceSub,hst,l_x,g_x,w_x,c57,c58,htk,b1,b2,b3,b4,b5,b6,b7,b8]
        rw [← hP, hs]; rfl
    · rw [b1, cond_true] at hP
      refine gw (an hst (an l_x (an g_x (an w_x (an c57 (an c58 (an htk b1))))))) ?_
      simp +decide only[go_sem,reduceAdd,reduceMul,reduceSub,hst,l_x,g_x,w_x,c57,c58,htk,b1]
      rw [← hP, hs]; rfl
  · have l_x : ((k : Int) < ((l.items).length : Int)) = False := by simp; omega
    rw [List.drop_eq_nil_of_le (by omega), bldF] at hP
    refine gw (an hst l_x) ?_
    simp +decide only[go_sem,reduceAdd,reduceMul,reduceSub,hst,l_x]
    rw [← hP]; rfl
end Go.Eng
/- The reference's Definition and Valid. -/
namespace Go.Eng
open Go Go.Proofs
open Nat (reduceAdd reduceMul reduceSub)
set_option maxRecDepth 20000
set_option maxHeartbeats 32000000
variable {G : Nat → Option (List D)}
theorem nameAt_some {cols : List Col} {x : I64} {c : Col} (h : atI cols x.1 = some c) : nameAt cols x = c.name := by unfold nameAt; rw [h]
theorem names131 (t : Tbl) (l : Sl I64) (hl : l.items.length ≤ 100) (hin : inC t.cols.items l.items) : callP (XG G) TT 131 [encTbl t, sl 1 I l] = some (sl 1 S (cn (l.items.map (nameAt t.cols.items)))) := by
  rw [← out_cn 1 S (by rw [List.length_map]; omega)]
  refine callP_val T131 rfl (by simp only [go_sem]) ?_
  unfold Tryd.f131
  simp only [Option.getD_some]
  simp +decide only[go_sem,reduceAdd,reduceMul,reduceSub]
  refine gw trivial ?_
  refine wpI_loopC (T := Nat) [1, 2, 5, 6] rfl (by simp +decide only[go_sem,reduceAdd,reduceMul,reduceSub]; exact rfl) (fun k => [(6, .int .i64 (k : Int)), (5, accD 1 (((l.items.take k).map (nameAt t.cols.items)).map S))]) (fun _ => []) (fun k => ⟨[], accT (((l.items.take k).map (nameAt t.cols.items)).map S)⟩) (fun k => k ≤ l.items.length) (fun k => l.items.length - k) 0 (by simp +decide only[go_sem,reduceAdd,reduceMul,reduceSub] <;> rfl) (by simp) ?_
  rintro k hk
  by_cases h : k < l.items.length
  · have l_x : ((k : Int) < ((l.items).length : Int)) = True := by simp; omega
    obtain ⟨x, g_x⟩ : ∃ a_, (l.items)[k]? = some a_ := ⟨_, List.getElem?_eq_getElem (by assumption)⟩
    have w_x := wrap_nat k (by omega)
    obtain ⟨c, hc⟩ := hin x (List.mem_of_getElem? g_x)
    have hl : ((((l.items.take k).map (nameAt t.cols.items)).map S).length + 1 ≤ 16777216) = True := by
      have : (((l.items.take k).map (nameAt t.cols.items)).map S).length ≤ l.items.length := by simp only [List.length_map]; exact List.length_take_le' ..
      simp only [eq_iff_iff, iff_true]; omega
    refine gw (an l_x (an g_x (an w_x (an hl hc)))) ?_
    refine ⟨k + 1, ?_, by omega, by omega⟩
    rw [List.take_add_one, g_x, List.map_append, List.map_append]
    simp only [Option.toList_some, List.map_cons, List.map_nil, nameAt_some hc]
    exact by simp +decide only[go_sem,reduceAdd,reduceMul,reduceSub,l_x,g_x,w_x] <;> rfl
  · have l_x : ((k : Int) < ((l.items).length : Int)) = False := by simp; omega
    rw [List.take_of_length_le (by omega)]
    refine gw l_x ?_
    simp +decide only[go_sem,reduceAdd,reduceMul,reduceSub,l_x]
    exact strip_acc (strip_Ss _)
def kn (t : Tbl) (k : Sl I64) : Sl Str := cn (k.items.map (nameAt t.cols.items))
/-- A foreign key, as it stands in a statement. -/
def fgS (s : List Tbl) (t : Tbl) (f : Fgn) : FgS := match atI s f.table.1 with
  | some u => ⟨kn t f.cols, u.name, match atI u.keys.items f.key.1 with | some k => kn u k | none => nilS⟩
  | none => ⟨nilS, [], nilS⟩
def one : I64 := ⟨1, by decide⟩
def defS (s : List Tbl) (t : Tbl) : Stm := ⟨one, t.name, t.cols, cn (t.keys.items.map (kn t)), cn (t.fgns.items.map (fgS s t)), t.checks, zeroRest⟩
def FgI (s : List Tbl) (t : Tbl) (f : Fgn) : Prop := inC t.cols.items f.cols.items ∧ ∃ u k, atI s f.table.1 = some u ∧ atI u.keys.items f.key.1 = some k ∧ inC u.cols.items k.items ∧ k.items.length ≤ 100
theorem def81 (s : Sl Tbl) (n : Nat) (t : Tbl) (ht : s.items[n]? = some t) (hs : SmallT t) (hk : ∀ k ∈ t.keys.items, inC t.cols.items k.items) (hf : ∀ f ∈ t.fgns.items, FgI s.items t f) :
    callP (XG G) TT 81 [sl 5 encTbl s, .int .i64 (n : Int)] = some (encStm (defS s.items t)) := by
  obtain ⟨x1, x2, x3, x4, x5, x6, x7, x8, x9⟩ := hs
  have hkl := t.keys.lt
  have hfl := t.fgns.lt
  refine callP_val T81 rfl (by simp only [go_sem]) ?_
  unfold Tryd.f81
  simp only [Option.getD_some]
  simp +decide only[go_sem,reduceAdd,reduceMul,reduceSub,ht]
  refine gw ht ?_
  refine wpI_loopC (T := Nat) [0, 4, 5, 6, 7] rfl (by simp +decide only[go_sem,reduceAdd,reduceMul,reduceSub,ht]; exact rfl) (fun k => [(7, .int .i64 (k : Int))]) (fun k => [(6, [.int .i64 1, .str t.name, sl 6 encCol t.cols, accN [] 1 (((t.keys.items.take k).map (kn t)).map (sl 1 S)), .nil, sl 8 encEx t.checks, .nil, .nil, .nil, .nil, .int .i64 0, .str [], .str [], .int .i64 0, .int .i64 0, .int .i64 0, .str [], .nil, .nil, .nil, .int .i64 0, .str []])]) (fun k => ⟨[], accM [] (((t.keys.items.take k).map (kn t)).map (sl 1 S))⟩) (fun k => k ≤ t.keys.items.length) (fun k => t.keys.items.length - k) 0 (by simp +decide only[go_sem,reduceAdd,reduceMul,reduceSub,ht] <;> rfl) (by simp) ?_
  rintro k hkk
  by_cases h : k < t.keys.items.length
  · have l_y : ((k : Int) < ((t.keys.items).length : Int)) = True := by simp; omega
    obtain ⟨y, g_y⟩ : ∃ a_, (t.keys.items)[k]? = some a_ := ⟨_, List.getElem?_eq_getElem (by assumption)⟩
    have w_y := wrap_nat k (by omega)
    have c1 := names131 (G := G) t y (by have := x5 y (List.mem_of_getElem? g_y); omega) (hk y (List.mem_of_getElem? g_y))
    simp only [encTbl_eq] at c1
    have hle : ((((t.keys.items.take k).map (kn t)).map (sl 1 S)).length + 1 ≤ 16777216) = True := by
      have : (((t.keys.items.take k).map (kn t)).map (sl 1 S)).length ≤ t.keys.items.length := by simp only [List.length_map]; exact List.length_take_le' ..
      simp only [eq_iff_iff, iff_true]; omega
    refine gw (an ht (an l_y (an g_y (an w_y (an c1 hle))))) ?_
    refine ⟨k + 1, ?_, by omega, by omega⟩
    rw [List.take_add_one, g_y, List.map_append, List.map_append]
    simp only [Option.toList_some, List.map_cons, List.map_nil, kn]
    exact by simp +decide only[go_sem,reduceAdd,reduceMul,reduceSub,ht,l_y,g_y,w_y] <;> rfl
  have l_e1 : ((k : Int) < ((t.keys.items).length : Int)) = False := by simp; omega
  rw [List.take_of_length_le (by omega)]
  have hkst : ∀ q, stripF q (accN [] 1 ((t.keys.items.map (kn t)).map (sl 1 S))) = sl 1 (sl 1 S) (cn (t.keys.items.map (kn t))) := fun q => by rw [strip_accN (stripFL_map _ (fun y => strip_slS 1 y) _), out_cn _ _ (by rw [List.length_map]; omega)]
  generalize hK : accN [] 1 ((t.keys.items.map (kn t)).map (sl 1 S)) = kD at *
  generalize hT : accM [] ((t.keys.items.map (kn t)).map (sl 1 S)) = tk at *
  have hkok : kD.okC = true := by rw [← hK]; exact okC_accN _ _ _
  have hkc : kD.cells = [kD] := by rw [← hK]; exact cells_accN _ _ _
  refine gw (an ht (an l_e1 (an hkst (an hkok hkc)))) ?_
  refine wpI_loopC (T := Nat) [0, 4, 5, 6, 8] rfl (by simp +decide only[go_sem,reduceAdd,reduceMul,reduceSub,ht,l_e1,hkst,hkok,hkc]; exact rfl) (fun k => [(8, .int .i64 (k : Int))]) (fun k => [(6, [.int .i64 1, .str t.name, sl 6 encCol t.cols, kD, accN tk 3 (((t.fgns.items.take k).map (fgS s.items t)).map encFgS), sl 8 encEx t.checks, .nil, .nil, .nil, .nil, .int .i64 0, .str [], .str [], .int .i64 0, .int .i64 0, .int .i64 0, .str [], .nil, .nil, .nil, .int .i64 0, .str []])]) (fun k => ⟨[], accM tk (((t.fgns.items.take k).map (fgS s.items t)).map encFgS)⟩) (fun k => k ≤ t.fgns.items.length) (fun k => t.fgns.items.length - k) 0 (by simp +decide only[go_sem,reduceAdd,reduceMul,reduceSub,ht,l_e1,hkst,hkok,hkc] <;> rfl) (by simp) ?_
  rintro k hkk
  by_cases h : k < t.fgns.items.length
  · have l_y : ((k : Int) < ((t.fgns.items).length : Int)) = True := by simp; omega
    obtain ⟨y, g_y⟩ : ∃ a_, (t.fgns.items)[k]? = some a_ := ⟨_, List.getElem?_eq_getElem (by assumption)⟩
    have w_y := wrap_nat k (by omega)
    obtain ⟨f1, u, z, f2, f3, f4, f5⟩ := hf y (List.mem_of_getElem? g_y)
    have c1 := names131 (G := G) t y.cols (by have := x6 y (List.mem_of_getElem? g_y); omega) f1
    have c2 := names131 (G := G) u z f5 f4
    simp only [encTbl_eq] at c1 c2
    have hle : ((((t.fgns.items.take k).map (fgS s.items t)).map encFgS).length + 1 ≤ 16777216) = True := by
      have : (((t.fgns.items.take k).map (fgS s.items t)).map encFgS).length ≤ t.fgns.items.length := by simp only [List.length_map]; exact List.length_take_le' ..
      simp only [eq_iff_iff, iff_true]; omega
    refine gw (an ht (an l_e1 (an hkst (an hkok (an hkc (an l_y (an g_y (an w_y (an c1 (an c2 (an f2 (an f3 hle)))))))))))) ?_
    refine ⟨k + 1, ?_, by omega, by omega⟩
    rw [List.take_add_one, g_y, List.map_append, List.map_append]
    simp only [Option.toList_some, List.map_cons, List.map_nil, fgS, f2, f3, kn]
    exact by simp +decide only[go_sem,reduceAdd,reduceMul,reduceSub,ht,l_e1,hkst,hkok,hkc,l_y,g_y,w_y] <;> rfl
  have l_e2 : ((k : Int) < ((t.fgns.items).length : Int)) = False := by simp; omega
  rw [List.take_of_length_le (by omega)]
  have hfst : ∀ q, stripF q (accN tk 3 ((t.fgns.items.map (fgS s.items t)).map encFgS)) = sl 3 encFgS (cn (t.fgns.items.map (fgS s.items t))) := fun q => by rw [strip_accN (stripFL_map _ (fun y => strip_FgS y) _), out_cn _ _ (by rw [List.length_map]; omega)]
  refine gw (an ht (an l_e1 (an hkst (an hkok (an hkc l_e2))))) ?_
  simp +decide only[go_sem,reduceAdd,reduceMul,reduceSub,ht,l_e1,hkst,hkok,hkc,l_e2,hfst]
  all_goals (first | rfl | (rw [hkst, hfst]; rfl))
end Go.Eng
