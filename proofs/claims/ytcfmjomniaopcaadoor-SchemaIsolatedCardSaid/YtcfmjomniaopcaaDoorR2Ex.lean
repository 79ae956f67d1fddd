/- A part of the proof: see the last text. -/
import Derived.Test.YtcfmjomniaopcaaDoorR2Inv
set_option linter.unusedSimpArgs false
set_option linter.unusedVariables false
/- What occurs twice: the program's twice and the reference's exists. -/
namespace Go.Eng
open Go Go.Proofs
open Nat (reduceAdd reduceMul reduceSub)
set_option maxRecDepth 20000
set_option maxHeartbeats 32000000
attribute [local irreducible] wpI endP
theorem eqF_symm {α : Type} {e : α → α → Bool} (h : ∀ a b, e a b = e b a) : ∀ a b : List α, eqF e a b = eqF e b a
  | [], [] => rfl
  | [], _ :: _ => rfl
  | _ :: _, [] => rfl
  | a :: r, b :: t => by rw [eqF, eqF, h, eqF_symm h r t]
theorem eqS_symm (a b : List Str) : eqS a b = eqS b a := eqF_symm (fun _ _ => Bool.beq_comm) a b
/-- A key has a name twice, or is there already. -/
def kdF (seen : List (Sl Str)) : List (Sl Str) → Bool
  | [] => false
  | k :: r => (dupS k.items || seen.any fun o => eqS k.items o.items) || kdF (seen ++ [k]) r
theorem kdF_step {l : List (Sl Str)} {k : Nat} {x : Sl Str} (h : l[k]? = some x) : kdF (l.take k) (l.drop k) = ((dupS x.items || (l.take k).any fun o => eqS x.items o.items) || kdF (l.take (k + 1)) (l.drop (k + 1))) := by
  rw [dropc h, kdF, List.take_add_one, h]; rfl
def exB (s : List Tbl) (x : Stm) : Bool := (fnd (fun t : Tbl => t.name == x.name) 0 s).isSome || (dupS (x.cols.items.map (·.name)) || (kdF [] x.keys.items || x.fgns.items.any fun f => dupS f.cols.items))
theorem any_take {α : Type} {p : α → Bool} {l : List α} {k : Nat} {x : α} (h : (l.take k).any p = false) (g : l[k]? = some x) (hx : p x = false) : (l.take (k + 1)).any p = false := by
  rw [List.take_add_one, g, List.any_append, h]; simp [hx]
theorem any_hit {α : Type} {p : α → Bool} {l : List α} {k : Nat} {x : α} (g : l[k]? = some x) (hx : p x = true) : l.any p = true :=
  List.any_eq_true.2 ⟨x, List.mem_of_getElem? g, hx⟩
theorem ex58 (s : Sl Tbl) (x : Stm) (hx : SmallS x) : callP (XG GK) TT 58 [sl 5 encTbl s, encStm x] = some (.bool (exB s.items x)) := by
  obtain ⟨x1, x2, x3, x4, x5, x6, x7, x8, x9⟩ := hx
  refine callP_val T58 rfl (by simp only [go_sem]) ?_
  unfold Tryd.f58
  simp only [Option.getD_some]
  have c1 := find26 (G := GK) s x.name
  unfold exB
  generalize fnd (fun t : Tbl => t.name == x.name) 0 s.items = o at *
  cases o with
  | some j =>
    simp only [fndT] at c1
    simp +decide only[go_sem,reduceAdd,reduceMul,reduceSub,c1]
    refine gw c1 ?_
    simp +decide only[go_sem,reduceAdd,reduceMul,reduceSub,c1]
    rfl
  | none =>
    simp only [fndT] at c1
    rw [Option.isSome_none, Bool.false_or]
    simp +decide only[go_sem,reduceAdd,reduceMul,reduceSub,c1]
    refine gw c1 ?_
    refine wpI_loopC (T := Nat) [5, 8, 9] rfl (by simp +decide only[go_sem,reduceAdd,reduceMul,reduceSub,c1]; exact rfl) (fun k => [(9, .int .i64 (k : Int)), (8, accD 1 (((x.cols.items.take k).map (·.name)).map S))]) (fun _ => []) (fun k => ⟨[], accT (((x.cols.items.take k).map (·.name)).map S)⟩) (fun k => k ≤ x.cols.items.length) (fun k => x.cols.items.length - k) 0 (by simp +decide only[go_sem,reduceAdd,reduceMul,reduceSub,c1] <;> rfl) (by simp) ?_
    rintro k1 hk1
    by_cases h1 : k1 < x.cols.items.length
    · have l_y : ((k1 : Int) < ((x.cols.items).length : Int)) = True := by simp; omega
      obtain ⟨y, g_y⟩ : ∃ a_, (x.cols.items)[k1]? = some a_ := ⟨_, List.getElem?_eq_getElem (by assumption)⟩
      have w_y := wrap_nat k1 (by omega)
      have hl : ((((x.cols.items.take k1).map (·.name)).map S).length + 1 ≤ 16777216) = True := by
        have : (((x.cols.items.take k1).map (·.name)).map S).length ≤ x.cols.items.length := by simp only [List.length_map]; exact List.length_take_le' ..
        simp only [eq_iff_iff, iff_true]; omega
      refine gw (an c1 (an l_y (an g_y (an w_y hl)))) ?_
      refine ⟨k1 + 1, ?_, by omega, by omega⟩
      rw [List.take_add_one, g_y, List.map_append, List.map_append]
      exact by simp +decide only[go_sem,reduceAdd,reduceMul,reduceSub,c1,l_y,g_y,w_y] <;> rfl
    have l_e1 : ((k1 : Int) < ((x.cols.items).length : Int)) = False := by simp; omega
    rw [List.take_of_length_le (by omega)]
    have hst : stripF noR (accD 1 ((x.cols.items.map (·.name)).map S)) = sl 1 S (cn (x.cols.items.map (·.name))) := by rw [strip_acc (strip_Ss _), out_cn _ _ (by rw [List.length_map]; omega)]
    have c2 := twice106 (G := GK) (cn (x.cols.items.map (·.name)))
    rw [cn_items (by rw [List.length_map]; omega)] at c2
    refine gw (an c1 (an l_e1 (an hst c2))) ?_
    cases d1 : (dupS (x.cols.items.map (·.name)))
    · rw [Bool.false_or]
      refine gw (an c1 (an l_e1 (an hst (an c2 d1)))) ?_
      refine wpI_loopC (T := Nat) [5, 10] rfl (by simp +decide only[go_sem,reduceAdd,reduceMul,reduceSub,c1,l_e1,hst,c2,d1]; exact rfl) (fun k => [(10, .int .i64 (k : Int))]) (fun _ => []) (fun _ => ⟨[], accT ((x.cols.items.map (·.name)).map S)⟩) (fun k => k ≤ x.keys.items.length ∧ kdF (x.keys.items.take k) (x.keys.items.drop k) = kdF [] x.keys.items) (fun k => x.keys.items.length - k) 0 (by simp +decide only[go_sem,reduceAdd,reduceMul,reduceSub,c1,l_e1,hst,c2,d1] <;> rfl) (by exact ⟨Nat.zero_le _, rfl⟩) ?_
      rintro k2 ⟨hk2, hP⟩
      by_cases h2 : k2 < x.keys.items.length
      · have l_y : ((k2 : Int) < ((x.keys.items).length : Int)) = True := by simp; omega
        obtain ⟨y, g_y⟩ : ∃ a_, (x.keys.items)[k2]? = some a_ := ⟨_, List.getElem?_eq_getElem (by assumption)⟩
        have w_y := wrap_nat k2 (by omega)
        rw [kdF_step g_y] at hP
        have c3 := twice106 (G := GK) y
        cases d2 : (dupS y.items)
        · rw [d2, Bool.false_or] at hP
          refine gw (an c1 (an l_e1 (an hst (an c2 (an d1 (an l_y (an g_y (an w_y (an c3 d2))))))))) ?_
          refine wpI_loopC (T := Nat) [5, 10, 11] rfl (by simp +decide only[go_sem,reduceAdd,reduceMul,reduceSub,c1,l_e1,hst,c2,d1,l_y,g_y,w_y,c3,d2]; exact rfl) (fun k => [(11, .int .i64 (k : Int))]) (fun _ => []) (fun _ => ⟨[], accT ((x.cols.items.map (·.name)).map S)⟩) (fun j => j ≤ k2 ∧ ((x.keys.items.take j).any fun o => eqS y.items o.items) = false) (fun j => k2 - j) 0 (by simp +decide only[go_sem,reduceAdd,reduceMul,reduceSub,c1,l_e1,hst,c2,d1,l_y,g_y,w_y,c3,d2] <;> rfl) (by simp) ?_
          rintro j ⟨hj, hQ⟩
          by_cases h3 : j < k2
          · have l2 : ((j : Int) < (k2 : Int)) = True := eq_true (by omega)
            have h4 : j < x.keys.items.length := by omega
            have l_z : ((j : Int) < ((x.keys.items).length : Int)) = True := by simp; omega
            obtain ⟨z, g_z⟩ : ∃ a_, (x.keys.items)[j]? = some a_ := ⟨_, List.getElem?_eq_getElem (by assumption)⟩
            have w_z := wrap_nat j (by omega)
            have c4 := texts107 (G := GK) y z
            cases c : (eqS y.items z.items)
            · refine gw (an c1 (an l_e1 (an hst (an c2 (an d1 (an l_y (an g_y (an w_y (an c3 (an d2 (an l_z (an g_z (an w_z (an l2 (an c4 c))))))))))))))) ?_
              exact ⟨j + 1, by simp +decide only[go_sem,reduceAdd,reduceMul,reduceSub,c1,l_e1,hst,c2,d1,l_y,g_y,w_y,c3,d2,l_z,g_z,w_z,l2,c4,c] <;> rfl, ⟨by omega, any_take hQ g_z c⟩, by omega⟩
            · refine gw (an c1 (an l_e1 (an hst (an c2 (an d1 (an l_y (an g_y (an w_y (an c3 (an d2 (an l_z (an g_z (an w_z (an l2 (an c4 c))))))))))))))) ?_
              simp +decide only[go_sem,reduceAdd,reduceMul,reduceSub,c1,l_e1,hst,c2,d1,l_y,g_y,w_y,c3,d2,l_z,g_z,w_z,l2,c4,c]
              have : ((x.keys.items.take k2).any fun o => eqS y.items o.items) = true := any_hit (k := j) (by rw [List.getElem?_take, if_pos h3, g_z]) c
              rw [this, Bool.true_or] at hP
              rw [← hP, Bool.true_or]
          · have l2 : ((j : Int) < (k2 : Int)) = False := eq_false (by omega)
            obtain rfl : j = k2 := by omega
            rw [hQ, Bool.false_or] at hP
            refine gw (an c1 (an l_e1 (an hst (an c2 (an d1 (an l_y (an g_y (an w_y (an c3 (an d2 l2)))))))))) ?_
            exact ⟨j + 1, by simp +decide only[go_sem,reduceAdd,reduceMul,reduceSub,c1,l_e1,hst,c2,d1,l_y,g_y,w_y,c3,d2] <;> rfl, ⟨by omega, hP⟩, by omega⟩
        · rw [d2, Bool.true_or, Bool.true_or] at hP
          refine gw (an c1 (an l_e1 (an hst (an c2 (an d1 (an l_y (an g_y (an w_y (an c3 d2))))))))) ?_
          simp +decide only[go_sem,reduceAdd,reduceMul,reduceSub,c1,l_e1,hst,c2,d1,l_y,g_y,w_y,c3,d2]
          rw [← hP, Bool.true_or]
      have l_e2 : ((k2 : Int) < ((x.keys.items).length : Int)) = False := by simp; omega
      rw [List.drop_eq_nil_of_le (by omega), kdF] at hP
      rw [← hP, Bool.false_or]
      refine gw (an c1 (an l_e1 (an hst (an c2 (an d1 l_e2))))) ?_
      refine wpI_loopC (T := Nat) [5, 12] rfl (by simp +decide only[go_sem,reduceAdd,reduceMul,reduceSub,c1,l_e1,hst,c2,d1,l_e2]; exact rfl) (fun k => [(12, .int .i64 (k : Int))]) (fun _ => []) (fun _ => ⟨[], accT ((x.cols.items.map (·.name)).map S)⟩) (fun k => k ≤ x.fgns.items.length ∧ ((x.fgns.items.take k).any fun f => dupS f.cols.items) = false) (fun k => x.fgns.items.length - k) 0 (by simp +decide only[go_sem,reduceAdd,reduceMul,reduceSub,c1,l_e1,hst,c2,d1,l_e2] <;> rfl) (by simp) ?_
      rintro k3 ⟨hk3, hQ⟩
      by_cases h3 : k3 < x.fgns.items.length
      · have l_y : ((k3 : Int) < ((x.fgns.items).length : Int)) = True := by simp; omega
        obtain ⟨y, g_y⟩ : ∃ a_, (x.fgns.items)[k3]? = some a_ := ⟨_, List.getElem?_eq_getElem (by assumption)⟩
        have w_y := wrap_nat k3 (by omega)
        have c3 := twice106 (G := GK) y.cols
        cases d2 : (dupS y.cols.items)
        · refine gw (an c1 (an l_e1 (an hst (an c2 (an d1 (an l_e2 (an l_y (an g_y (an w_y (an c3 d2)))))))))) ?_
          exact ⟨k3 + 1, by simp +decide only[go_sem,reduceAdd,reduceMul,reduceSub,c1,l_e1,hst,c2,d1,l_e2,l_y,g_y,w_y,c3,d2] <;> rfl, ⟨by omega, any_take hQ g_y d2⟩, by omega⟩
        · refine gw (an c1 (an l_e1 (an hst (an c2 (an d1 (an l_e2 (an l_y (an g_y (an w_y (an c3 d2)))))))))) ?_
          simp +decide only[go_sem,reduceAdd,reduceMul,reduceSub,c1,l_e1,hst,c2,d1,l_e2,l_y,g_y,w_y,c3,d2]
          rw [any_hit (p := fun f : FgS => dupS f.cols.items) g_y d2]
      have l_e3 : ((k3 : Int) < ((x.fgns.items).length : Int)) = False := by simp; omega
      rw [List.take_of_length_le (by omega)] at hQ
      refine gw (an c1 (an l_e1 (an hst (an c2 (an d1 (an l_e2 l_e3)))))) ?_
      simp +decide only[go_sem,reduceAdd,reduceMul,reduceSub,c1,l_e1,hst,c2,d1,l_e2,l_e3]
      rw [hQ]
    · refine gw (an c1 (an l_e1 (an hst (an c2 d1)))) ?_
      simp +decide only[go_sem,reduceAdd,reduceMul,reduceSub,c1,l_e1,hst,c2,d1]
      rw [Bool.true_or]
end Go.Eng
