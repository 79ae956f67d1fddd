/- A part of the proof: see the last text. -/
import Derived.Test.YtcfmjomniaopcaaGreatDoorR2Ex
set_option linter.unusedSimpArgs false
set_option linter.unusedVariables false
namespace Go.Eng
open Go Go.Proofs
open Nat (reduceAdd reduceMul reduceSub)
set_option maxRecDepth 20000
set_option maxHeartbeats 32000000
theorem eq150 (a b : Sl Str) (m : Mem) (id : Nat) (hm : m.boxes[id]? = some [sl 1 S b]) : callR (XG GK) TT 65 m [sl 1 S a, .ptr id 0] = some (.bool (eqS a.items b.items), m) := by
  refine callR_val T65 rfl ?_
  unfold Tryz.f65
  simp only [Option.getD_some]
  have c := equal151 (G := GK) a b
  simp +decide only[go_sem,reduceAdd,reduceMul,reduceSub,hm,c]
  refine gw (an hm c) ?_
  simp +decide only[go_sem,reduceAdd,reduceMul,reduceSub,hm,c]
theorem twice95 (s : Sl Tbl) (x : Stm) (hx : SmallS x) (v : D) (g : List (List D)) (tk : List Nat) (hs : stripF noR v = sl 5 encTbl s) (hv : v.cells = [v]) (hok : v.okC = true) :
    ∃ g', callR (XG GK) TT 36 ⟨[v] :: g, tk⟩ [.ptr 0 0, encStm x] = some (.int .i64 (bif exB s.items x then 5 else 0), ⟨[v] :: g', tk⟩) := by
  suffices h : ∃ r m', callR (XG GK) TT 36 ⟨[v] :: g, tk⟩ [.ptr 0 0, encStm x] = some (r, m') ∧ (r = .int .i64 (bif exB s.items x then 5 else 0) ∧ ∃ g', m' = ⟨[v] :: g', tk⟩) by
    obtain ⟨r, m', h1, rfl, g', rfl⟩ := h; exact ⟨g', h1⟩
  obtain ⟨x1, x2, x3, x4, x5, x6, x7, x8, x9⟩ := hx
  refine callR_body T36 rfl ?_
  unfold Tryz.f36
  simp only [Option.getD_some]
  have c1 := find25 (G := GK) s x.name
  have c2 := names127 (G := GK) x.cols (by omega)
  have c3 := rep126 (G := GK) (cn (x.cols.items.map (·.name)))
  rw [cn_items (by rw [List.length_map]; omega)] at c3
  unfold exB
  generalize fnd (fun t : Tbl => t.name == x.name) 0 s.items = o at *
  simp +decide only[go_sem,reduceAdd,reduceMul,reduceSub,hs,hv,hok,c1,c2,c3]
  refine gw (an hs (an hv (an hok (an c1 (an c2 c3))))) ?_
  cases o with
  | some j =>
    simp only [fndT] at c1
    refine gw (an hs (an hv (an hok (an c1 (an c2 c3))))) ?_
    simp +decide only[go_sem,reduceAdd,reduceMul,reduceSub,hs,hv,hok,c1,c2,c3]
    exact ⟨rfl, _, rfl⟩
  | none =>
    simp only [fndT] at c1
    rw [Option.isSome_none, Bool.false_or]
    cases d1 : (dupS (x.cols.items.map (·.name)))
    · rw [Bool.false_or]
      refine gw (an hs (an hv (an hok (an c1 (an c2 (an c3 d1)))))) ?_
      refine wpI_loopC (T := Nat × List (List D)) [5, 30, 31, 32] rfl (by simp +decide only[go_sem,reduceAdd,reduceMul,reduceSub,hs,hv,hok,c1,c2,c3,d1]; exact rfl) (fun p => [(32, .int .i64 (p.1 : Int))]) (fun _ => []) (fun p => ⟨[v] :: p.2, tk⟩) (fun p => p.1 ≤ x.keys.items.length ∧ kdF (x.keys.items.take p.1) (x.keys.items.drop p.1) = kdF [] x.keys.items) (fun p => x.keys.items.length - p.1) (0, g) (by simp +decide only[go_sem,reduceAdd,reduceMul,reduceSub,hs,hv,hok,c1,c2,c3,d1] <;> rfl) (by exact ⟨Nat.zero_le _, rfl⟩) ?_
      rintro ⟨k2, g2⟩ ⟨hk2, hP⟩
      simp only at hk2 hP ⊢
      by_cases h2 : k2 < x.keys.items.length
      · have hlt : x.keys.items.length < 4611686018427387904 := x.keys.lt
        have l_y : ((k2 : Int) < ((x.keys.items).length : Int)) = True := by simp; omega
        obtain ⟨y, g_y⟩ : ∃ a_, (x.keys.items)[k2]? = some a_ := ⟨_, List.getElem?_eq_getElem (by assumption)⟩
        have w_y := wrap_nat k2 (by omega)
        rw [kdF_step g_y] at hP
        have c4 := rep126 (G := GK) y
        cases d2 : (dupS y.items)
        · rw [d2, Bool.false_or] at hP
          have c5 := slcI_sl (P := Tryz.prog) (t := 27) (k := 1) (sl 1 S) x.keys (i := k2) ty_ss_27 (by omega)
          have c6 := ctf149 (x.keys.take k2) 65 [.ptr (g2.length + 1) 0] ⟨[v] :: (g2 ++ [[sl 1 S y]]), tk⟩ (fun o => eqS o.items y.items) (eq_true (by decide)) fun o _ => eq150 o y _ _ (by simp)
          rw [Sl.take_items, show (fun o : Sl Str => eqS o.items y.items) = fun o => eqS y.items o.items from funext fun o => eqS_symm _ _] at c6
          refine gw (an hs (an hv (an hok (an c1 (an c2 (an c3 (an d1 (an l_y (an g_y (an w_y (an c4 (an d2 (an c5 c6))))))))))))) ?_
          cases d3 : ((x.keys.items.take k2).any fun o => eqS y.items o.items)
          · rw [d3, Bool.false_or] at hP
            refine gw (an hs (an hv (an hok (an c1 (an c2 (an c3 (an d1 (an l_y (an g_y (an w_y (an c4 (an d2 (an c5 (an c6 d3)))))))))))))) ?_
            exact ⟨(k2 + 1, g2 ++ [[sl 1 S y]]), by simp +decide only[go_sem,reduceAdd,reduceMul,reduceSub,hs,hv,hok,c1,c2,c3,d1,l_y,g_y,w_y,c4,d2,c5,c6,d3] <;> rfl, ⟨by simp only; omega, hP⟩, by simp only; omega⟩
          · rw [d3, Bool.true_or] at hP
            refine gw (an hs (an hv (an hok (an c1 (an c2 (an c3 (an d1 (an l_y (an g_y (an w_y (an c4 (an d2 (an c5 (an c6 d3)))))))))))))) ?_
            simp +decide only[go_sem,reduceAdd,reduceMul,reduceSub,hs,hv,hok,c1,c2,c3,d1,l_y,g_y,w_y,c4,d2,c5,c6,d3]
            rw [← hP]
            exact ⟨rfl, _, rfl⟩
        · rw [d2, Bool.true_or, Bool.true_or] at hP
          refine gw (an hs (an hv (an hok (an c1 (an c2 (an c3 (an d1 (an l_y (an g_y (an w_y (an c4 d2))))))))))) ?_
          simp +decide only[go_sem,reduceAdd,reduceMul,reduceSub,hs,hv,hok,c1,c2,c3,d1,l_y,g_y,w_y,c4,d2]
          rw [← hP]
          exact ⟨rfl, _, rfl⟩
      have l_e2 : ((k2 : Int) < ((x.keys.items).length : Int)) = False := by simp; omega
      rw [List.drop_eq_nil_of_le (by omega), kdF] at hP
      rw [← hP, Bool.false_or]
      have c7 := all147 x.fgns 67 [] ⟨[v] :: g2, tk⟩ (fun f => !dupS f.cols.items) (eq_true (by decide)) fun y hy => own_val pf67 (by rw [stripL, stripFL_cons, strip_FgS]; rfl) (rep152 y)
      rw [show (x.fgns.items.any fun f => dupS f.cols.items) = !(x.fgns.items.all fun f => !dupS f.cols.items) from by rw [← not_any]; simp]
      refine gw (an hs (an hv (an hok (an c1 (an c2 (an c3 (an d1 (an l_e2 c7)))))))) ?_
      cases d4 : (x.fgns.items.all fun f => !dupS f.cols.items)
      · refine gw (an hs (an hv (an hok (an c1 (an c2 (an c3 (an d1 (an l_e2 (an c7 d4))))))))) ?_
        simp +decide only[go_sem,reduceAdd,reduceMul,reduceSub,hs,hv,hok,c1,c2,c3,d1,l_e2,c7,d4]
        exact ⟨trivial, _, rfl⟩
      · refine gw (an hs (an hv (an hok (an c1 (an c2 (an c3 (an d1 (an l_e2 (an c7 d4))))))))) ?_
        simp +decide only[go_sem,reduceAdd,reduceMul,reduceSub,hs,hv,hok,c1,c2,c3,d1,l_e2,c7,d4]
        exact ⟨trivial, _, rfl⟩
    · refine gw (an hs (an hv (an hok (an c1 (an c2 (an c3 d1)))))) ?_
      simp +decide only[go_sem,reduceAdd,reduceMul,reduceSub,hs,hv,hok,c1,c2,c3,d1]
      exact ⟨rfl, _, rfl⟩
end Go.Eng
