/- A part of the proof: see the last text. -/
import Derived.Test.YtcfmjomniaopcaaDoorKR2Cg
import Derived.Test.YtcfmjomniaopcaaDoorKR2Pj
set_option linter.unusedSimpArgs false
set_option linter.unusedVariables false
/- What the guards say of a plan: its sources, the keys of a part. -/
namespace Go.Eng
open Go Go.Proofs
open Nat (reduceAdd reduceMul reduceSub)
set_option maxRecDepth 20000
set_option maxHeartbeats 32000000
attribute [local irreducible] wpI endP
section
variable {G : Nat → Option (List D)}
theorem app_DI (L : List I64) (l : List I64) : appendD 1 ⟨[], accT (L.map I)⟩ (accD 1 (L.map I)) (l.map I) = some (accD 1 ((L ++ l).map I), ⟨[], accT ((L ++ l).map I)⟩) := by
  rw [List.map_append]; exact app_D 1 _ _
theorem sources69 : ∀ (n : Nat), n ≤ 10 → ∀ p : PlR, FewN n p.enc → ∃ l : Sl I64, callP (XG G) TT 69 [p.enc] = some (sl 1 I l) ∧ l.items.length ≤ 3 ^ n := by
  intro n
  induction n with
  | zero => intro _ p h; obtain ⟨m, h, _⟩ := h.open; omega
  | succ n ih =>
    intro hn p h
    obtain ⟨m, e, _, _, ha, _, hk⟩ := h.open
    obtain rfl : m = n := by omega
    have hM : 3 ^ m ≤ 3 ^ 10 := Nat.pow_le_pow_right (by decide) (by omega)
    have h1M : 1 ≤ 3 ^ m := Nat.one_le_pow _ _ (by decide)
    have ih' : ∀ x ∈ p.args.items, ∃ l : Sl I64, callP (XG G) TT 69 [encPl x] = some (sl 1 I l) ∧ l.items.length ≤ 3 ^ m := fun x hx => by
      obtain ⟨q, hq, _⟩ := x.open
      have := hk x hx
      rw [hq] at this ⊢
      exact ih (by omega) q this
    have hpow : 3 ^ (m + 1) = 3 ^ m * 3 := Nat.pow_succ ..
    rw [hpow]
    generalize 3 ^ m = M at *
    have hM : M ≤ 59049 := hM
    have hlt := p.args.lt
    suffices h : ∃ v, callP (XG G) TT 69 [p.enc] = some v ∧ ∃ l : Sl I64, v = sl 1 I l ∧ l.items.length ≤ M * 3 by
      obtain ⟨v, h1, l, rfl, h2⟩ := h; exact ⟨l, h1, h2⟩
    refine callP_body T69 rfl (by simp only [go_sem]) ?_
    unfold Tryd.f69
    simp only [Option.getD_some]
    have hleaf : ∀ v, v = D.slice none 1 [.int .i64 p.s.1] → ∃ l : Sl I64, v = sl 1 I l ∧ l.items.length ≤ M * 3 := fun v e => ⟨⟨some [p.s], by show (1 : Nat) < 4611686018427387904; decide⟩, e, by show 1 ≤ M * 3; omega⟩
    simp +decide only[go_sem,reduceAdd,reduceMul,reduceSub]
    cases k1 : (p.k.1 == 1)
    · cases k2 : (p.k.1 == 2)
      · cases k3 : (p.k.1 == 3)
        · refine gw (an k1 (an k2 k3)) ?_
          refine wpI_loopC (T := Nat × List I64) [1, 3, 4] rfl (by simp +decide only[go_sem,reduceAdd,reduceMul,reduceSub,k1,k2,k3]; exact rfl) (fun q => [(4, .int .i64 (q.1 : Int)), (3, accD 1 (q.2.map I))]) (fun _ => []) (fun q => ⟨[], accT (q.2.map I)⟩) (fun q => q.1 ≤ p.args.items.length ∧ q.2.length ≤ q.1 * M) (fun q => p.args.items.length - q.1) (0, []) (by simp +decide only[go_sem,reduceAdd,reduceMul,reduceSub,k1,k2,k3] <;> rfl) (by simp) ?_
          rintro ⟨k, L⟩ ⟨hkl, hL⟩
          simp only at hkl hL ⊢
          have hk3 : k * M ≤ 3 * M := Nat.mul_le_mul_right _ (by omega)
          by_cases h : k < p.args.items.length
          · have l_x : ((k : Int) < ((p.args.items).length : Int)) = True := by simp; omega
            obtain ⟨x, g_x⟩ : ∃ a_, (p.args.items)[k]? = some a_ := ⟨_, List.getElem?_eq_getElem (by assumption)⟩
            have w_x := wrap_nat k (by omega)
            obtain ⟨l, hl, hll⟩ := ih' x (List.mem_of_getElem? g_x)
            have p1 := app_DI L l.items
            have hle : (L.length + l.items.length ≤ 16777216) = True := eq_true (by omega)
            have hkM : (k + 1) * M = k * M + M := Nat.succ_mul ..
            repeat (first|(with_reducible first|refine q1 ?_|refine q2 ?_|refine q3 ?_|refine q4 ?_|refine q5 ?_|refine q6 ?_|refine q7 ?_|refine q8 ?_|refine q9 ?_|refine q10 ?_|refine q11 ?_|refine q12 (by decide) ?_)|((first|with_reducible refine q13 ?_|((with_reducible refine q14 ?_ ?_);focus exact rfl));intro K hK;simp +decide only[go_sem,reduceAdd,reduceMul,reduceSub,k1,k2,k3,l_x,g_x,w_x,hl,p1,hle,List.length_map];with_reducible refine hK _ ?_;clear hK K)|(with_reducible refine q15 ?_;intro K J hK hJ;simp +decide only[go_sem,reduceAdd,reduceMul,reduceSub,k1,k2,k3,l_x,g_x,w_x,hl,p1,hle,List.length_map];(with_reducible first|refine hK ?_|refine hJ ?_);clear hK hJ K J))
            exact ⟨(k + 1, L ++ l.items), by simp +decide only[go_sem,reduceAdd,reduceMul,reduceSub,k1,k2,k3,l_x,g_x,w_x] <;> rfl, ⟨by simp only; omega, by simp only [List.length_append]; omega⟩, by simp only; omega⟩
          · have l_e1 : ((k : Int) < ((p.args.items).length : Int)) = False := by simp; omega
            refine gw (an k1 (an k2 (an k3 l_e1))) ?_
            simp +decide only[go_sem,reduceAdd,reduceMul,reduceSub,k1,k2,k3,l_e1]
            have hLl : L.length < 4611686018427387904 := by omega
            refine ⟨cn L, ?_, by rw [cn_items hLl]; omega⟩
            rw [← out_cn 1 I hLl]
            exact strip_acc (stripFL_map I strip_I _)
        · refine gw (an k1 (an k2 k3)) ?_
          simp +decide only[go_sem,reduceAdd,reduceMul,reduceSub,k1,k2,k3]
          exact hleaf _ rfl
      · refine gw (an k1 k2) ?_
        simp +decide only[go_sem,reduceAdd,reduceMul,reduceSub,k1,k2]
        exact hleaf _ rfl
    · refine gw k1 ?_
      simp +decide only[go_sem,reduceAdd,reduceMul,reduceSub,k1]
      exact hleaf _ rfl
end
section
variable {G : Nat → Option (List D)} (s : Sl Tbl) (b : Bnd) (W : List Nat) (h : WOK s.items b.tabs.items W)
include h
theorem column159 (src : Nat) (hs : src < W.length) (n : I64) : ∃ k, callP (XG G) TT 159 [sl 5 encTbl s, encBnd b, .int .i64 (src : Int), .int .i64 n.1] = some (.bool k) := by
  have hW := h.len
  obtain ⟨v, t, w, g1, g2, g3, g4, g5⟩ := h.at (i := src) (by omega)
  suffices h : ∃ v, callP (XG G) TT 159 [sl 5 encTbl s, encBnd b, .int .i64 (src : Int), .int .i64 n.1] = some v ∧ BoolP True v by
    obtain ⟨v, h1, h2⟩ := h
    cases h2 with
    | no => exact ⟨_, h1⟩
    | yes _ => exact ⟨_, h1⟩
  refine callP_body T159 rfl (by simp only [go_sem]) ?_
  unfold Tryd.f159
  simp only [Option.getD_some]
  simp +decide only[go_sem,reduceAdd,reduceMul,reduceSub,g1,g2,g4]
  by_cases c : 0 ≤ n.1
  · by_cases d : n.1 < (w : Int)
    · refine gw (an g1 (an g2 (an g4 (an c d)))) ?_
      simp +decide only[go_sem,reduceAdd,reduceMul,reduceSub,g1,g2,g4,c,d]
      exact .yes trivial
    · refine gw (an g1 (an g2 (an g4 (an c d)))) ?_
      simp +decide only[go_sem,reduceAdd,reduceMul,reduceSub,g1,g2,g4,c,d]
      exact .no
  · refine gw (an g1 (an g2 (an g4 c))) ?_
    simp +decide only[go_sem,reduceAdd,reduceMul,reduceSub,g1,g2,g4,c]
    exact .no
theorem keys111 (p : PlR) (src : Nat) (hs : p.s.1 = src) (hsW : src < W.length) (given : Sl I64) :
    ∃ q, callP (XG G) TT 111 [sl 5 encTbl s, encBnd b, p.enc, sl 1 I given] = some (.bool q) ∧ (q = true → p.k.1 ≠ 2 → p.c.items.length = 1 ∧ p.e.items.length = 2) := by
  refine boolP_of fun P hR => ?_
  refine callP_body T111 rfl (by simp only [go_sem]) ?_
  unfold Tryd.f111
  simp only [Option.getD_some]
  have hcl := p.c.lt
  have hel := p.e.lt
  simp +decide only[go_sem,reduceAdd,reduceMul,reduceSub,hs]
  refine gw hs ?_
  refine wpI_loopC (T := Nat) [0, 3, 5, 6, 9] rfl (by simp +decide only[go_sem,reduceAdd,reduceMul,reduceSub,hs]; exact rfl) (fun k => [(9, .int .i64 (k : Int))]) (fun _ => []) (fun _ => ⟨[], []⟩) (fun k => k ≤ p.c.items.length) (fun k => p.c.items.length - k) 0 (by simp +decide only[go_sem,reduceAdd,reduceMul,reduceSub,hs] <;> rfl) (by simp) ?_
  rintro k hk
  by_cases h1 : k < p.c.items.length
  · have l_x : ((k : Int) < ((p.c.items).length : Int)) = True := by simp; omega
    obtain ⟨x, g_x⟩ : ∃ a_, (p.c.items)[k]? = some a_ := ⟨_, List.getElem?_eq_getElem (by assumption)⟩
    have w_x := wrap_nat k (by omega)
    obtain ⟨q1, c1⟩ := column159 (G := G) s b W h src hsW x
    have c2 := has71 (G := G) (p.c.take k) x.1
    simp only [encBnd_eq] at c1
    have c3 := slcI_sl (P := Tryd.prog) (t := 24) (k := 1) I p.c (i := k) (by simp only [go_sem]) (by omega)
    cases q1
    · refine gw (an hs (an l_x (an g_x (an w_x (an c1 (an c2 c3)))))) ?_
      simp +decide only[go_sem,reduceAdd,reduceMul,reduceSub,hs,l_x,g_x,w_x,c1,c2,c3]
      exact .no
    · cases c4 : ((p.c.take k).items.any fun y => y.1 == x.1)
      · refine gw (an hs (an l_x (an g_x (an w_x (an c1 (an c2 (an c3 c4))))))) ?_
        exact ⟨k + 1, by simp +decide only[go_sem,reduceAdd,reduceMul,reduceSub,hs,l_x,g_x,w_x,c1,c2,c3,c4] <;> rfl, by omega, by omega⟩
      · refine gw (an hs (an l_x (an g_x (an w_x (an c1 (an c2 (an c3 c4))))))) ?_
        simp +decide only[go_sem,reduceAdd,reduceMul,reduceSub,hs,l_x,g_x,w_x,c1,c2,c3,c4]
        exact .no
  have l_e1 : ((k : Int) < ((p.c.items).length : Int)) = False := by simp; omega
  refine gw (an hs l_e1) ?_
  refine wpI_loopC (T := Nat × Bool) [0, 3, 5, 6, 10, 11] rfl (by simp +decide only[go_sem,reduceAdd,reduceMul,reduceSub,hs,l_e1]; exact rfl) (fun q => [(11, .int .i64 (q.1 : Int)), (10, .bool q.2)]) (fun _ => []) (fun _ => ⟨[], []⟩) (fun q => q.1 ≤ p.e.items.length) (fun q => p.e.items.length - q.1) (0, false) (by simp +decide only[go_sem,reduceAdd,reduceMul,reduceSub,hs,l_e1] <;> rfl) (by simp) ?_
  rintro ⟨j, sm⟩ hj
  simp only at hj ⊢
  by_cases h2 : j < p.e.items.length
  · have l_x : ((j : Int) < ((p.e.items).length : Int)) = True := by simp; omega
    obtain ⟨x, g_x⟩ : ∃ a_, (p.e.items)[j]? = some a_ := ⟨_, List.getElem?_eq_getElem (by assumption)⟩
    have w_x := wrap_nat j (by omega)
    obtain ⟨rx, hx, _⟩ := x.open
    obtain ⟨q1, c1⟩ := absent110 (G := G) rx
    obtain ⟨q2, c2⟩ := within43 (G := G) s b W h given rx
    simp only [ExR_eq, encBnd_eq] at c1 c2 hx
    cases k2 : (p.k.1 == 2)
    · cases q1
      · cases z0 : (rx.a.1 == 0)
        · cases q2
          · refine gw (an hs (an l_e1 (an l_x (an g_x (an w_x (an hx (an c1 (an c2 (an k2 z0))))))))) ?_
            simp +decide only[go_sem,reduceAdd,reduceMul,reduceSub,hs,l_e1,l_x,g_x,w_x,hx,c1,c2,k2,z0]
            exact .no
          · cases sm
            · refine gw (an hs (an l_e1 (an l_x (an g_x (an w_x (an hx (an c1 (an c2 (an k2 z0))))))))) ?_
              exact ⟨(j + 1, true), by simp +decide only[go_sem,reduceAdd,reduceMul,reduceSub,hs,l_e1,l_x,g_x,w_x,hx,c1,c2,k2,z0] <;> rfl, by simp only; omega, by simp only; omega⟩
            · refine gw (an hs (an l_e1 (an l_x (an g_x (an w_x (an hx (an c1 (an c2 (an k2 z0))))))))) ?_
              exact ⟨(j + 1, true), by simp +decide only[go_sem,reduceAdd,reduceMul,reduceSub,hs,l_e1,l_x,g_x,w_x,hx,c1,c2,k2,z0] <;> rfl, by simp only; omega, by simp only; omega⟩
        · refine gw (an hs (an l_e1 (an l_x (an g_x (an w_x (an hx (an c1 (an c2 (an k2 z0))))))))) ?_
          simp +decide only[go_sem,reduceAdd,reduceMul,reduceSub,hs,l_e1,l_x,g_x,w_x,hx,c1,c2,k2,z0]
          exact .no
      · cases sm
        · refine gw (an hs (an l_e1 (an l_x (an g_x (an w_x (an hx (an c1 (an c2 k2)))))))) ?_
          exact ⟨(j + 1, false), by simp +decide only[go_sem,reduceAdd,reduceMul,reduceSub,hs,l_e1,l_x,g_x,w_x,hx,c1,c2,k2] <;> rfl, by simp only; omega, by simp only; omega⟩
        · refine gw (an hs (an l_e1 (an l_x (an g_x (an w_x (an hx (an c1 (an c2 k2)))))))) ?_
          exact ⟨(j + 1, true), by simp +decide only[go_sem,reduceAdd,reduceMul,reduceSub,hs,l_e1,l_x,g_x,w_x,hx,c1,c2,k2] <;> rfl, by simp only; omega, by simp only; omega⟩
    · cases q1
      · cases z0 : (rx.a.1 == 0)
        · cases q2
          · refine gw (an hs (an l_e1 (an l_x (an g_x (an w_x (an hx (an c1 (an c2 (an k2 z0))))))))) ?_
            simp +decide only[go_sem,reduceAdd,reduceMul,reduceSub,hs,l_e1,l_x,g_x,w_x,hx,c1,c2,k2,z0]
            exact .no
          · cases sm
            · refine gw (an hs (an l_e1 (an l_x (an g_x (an w_x (an hx (an c1 (an c2 (an k2 z0))))))))) ?_
              exact ⟨(j + 1, true), by simp +decide only[go_sem,reduceAdd,reduceMul,reduceSub,hs,l_e1,l_x,g_x,w_x,hx,c1,c2,k2,z0] <;> rfl, by simp only; omega, by simp only; omega⟩
            · refine gw (an hs (an l_e1 (an l_x (an g_x (an w_x (an hx (an c1 (an c2 (an k2 z0))))))))) ?_
              exact ⟨(j + 1, true), by simp +decide only[go_sem,reduceAdd,reduceMul,reduceSub,hs,l_e1,l_x,g_x,w_x,hx,c1,c2,k2,z0] <;> rfl, by simp only; omega, by simp only; omega⟩
        · refine gw (an hs (an l_e1 (an l_x (an g_x (an w_x (an hx (an c1 (an c2 (an k2 z0))))))))) ?_
          simp +decide only[go_sem,reduceAdd,reduceMul,reduceSub,hs,l_e1,l_x,g_x,w_x,hx,c1,c2,k2,z0]
          exact .no
      · refine gw (an hs (an l_e1 (an l_x (an g_x (an w_x (an hx (an c1 (an c2 k2)))))))) ?_
        simp +decide only[go_sem,reduceAdd,reduceMul,reduceSub,hs,l_e1,l_x,g_x,w_x,hx,c1,c2,k2]
        exact .no
  have l_e2 : ((j : Int) < ((p.e.items).length : Int)) = False := by simp; omega
  cases k2 : (p.k.1 == 2)
  · cases c1 : ((p.c.items.length : Int) == 1)
    · refine gw (an hs (an l_e1 (an l_e2 (an k2 c1)))) ?_
      simp +decide only[go_sem,reduceAdd,reduceMul,reduceSub,hs,l_e1,l_e2,k2,c1]
      exact .no
    · cases c2 : ((p.e.items.length : Int) == 2)
      · refine gw (an hs (an l_e1 (an l_e2 (an k2 (an c1 c2))))) ?_
        simp +decide only[go_sem,reduceAdd,reduceMul,reduceSub,hs,l_e1,l_e2,k2,c1,c2]
        exact .no
      · cases sm
        · refine gw (an hs (an l_e1 (an l_e2 (an k2 (an c1 c2))))) ?_
          simp +decide only[go_sem,reduceAdd,reduceMul,reduceSub,hs,l_e1,l_e2,k2,c1,c2]
          exact .no
        · refine gw (an hs (an l_e1 (an l_e2 (an k2 (an c1 c2))))) ?_
          simp +decide only[go_sem,reduceAdd,reduceMul,reduceSub,hs,l_e1,l_e2,k2,c1,c2]
          exact .yes (hR fun _ => ⟨by simp at c1; omega, by simp at c2; omega⟩)
  · have hy : P := hR fun h => by simp at k2; exact absurd k2 h
    by_cases c1 : (1 : Int) ≤ (p.c.items.length : Int)
    · cases c2 : ((p.e.items.length : Int) == (p.c.items.length : Int))
      · refine gw (an hs (an l_e1 (an l_e2 (an k2 (an c1 c2))))) ?_
        simp +decide only[go_sem,reduceAdd,reduceMul,reduceSub,hs,l_e1,l_e2,k2,c1,c2]
        exact .no
      · refine gw (an hs (an l_e1 (an l_e2 (an k2 (an c1 c2))))) ?_
        simp +decide only[go_sem,reduceAdd,reduceMul,reduceSub,hs,l_e1,l_e2,k2,c1,c2]
        exact .yes hy
    · refine gw (an hs (an l_e1 (an l_e2 (an k2 c1)))) ?_
      simp +decide only[go_sem,reduceAdd,reduceMul,reduceSub,hs,l_e1,l_e2,k2,c1]
      exact .no
end
end Go.Eng
