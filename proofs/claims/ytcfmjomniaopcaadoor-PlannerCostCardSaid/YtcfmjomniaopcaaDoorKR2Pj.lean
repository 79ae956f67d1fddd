/- A part of the proof: see the last text. -/
import Derived.Test.YtcfmjomniaopcaaDoorKR2Pg
import Derived.Test.YtcfmjomniaopcaaDoorKR2SmallT
import Derived.Test.YtcfmjomniaopcaaDoorR2Po
set_option linter.unusedSimpArgs false
set_option linter.unusedVariables false
/- What the law asks of a case: bools; the bound statement of a case. -/
namespace Go.Eng
open Go Go.Proofs
open Nat (reduceAdd reduceMul reduceSub)
set_option maxRecDepth 20000
set_option maxHeartbeats 32000000
variable {G : Nat → Option (List D)}
theorem nodes_step (r : ExR) (n : Int) (ih : ∀ x ∈ r.args.items, ∀ n : Int, ∃ v : Int, callP (XG G) TT 67 [encEx x, .int .i64 n] = some (.int .i64 v)) : ∃ v : Int, callP (XG G) TT 67 [r.enc, .int .i64 n] = some (.int .i64 v) := by
  suffices h : ∃ v, callP (XG G) TT 67 [r.enc, .int .i64 n] = some v ∧ ∃ k : Int, v = .int .i64 k by
    obtain ⟨v, h1, k, rfl⟩ := h; exact ⟨k, h1⟩
  refine callP_body T67 rfl (by simp only [go_sem, strip_ExR]) ?_
  unfold Tryd.f67
  simp only [Option.getD_some]
  have hlt := r.args.lt
  have hw : ∃ b, decide (100 < IntKind.i64.wrap (IntKind.i64.wrap ((r.t.length : Int) + (r.s.length : Int)) + (r.u.length : Int))) = b := ⟨_, rfl⟩
  obtain ⟨b, hw⟩ := hw
  simp +decide only[go_sem,reduceAdd,reduceMul,reduceSub,hw]
  refine gw hw ?_
  cases b
  · refine gw hw ?_
    refine wpI_loopC (T := Nat × Int) [1, 2, 5, 6] rfl (by simp +decide only[go_sem,reduceAdd,reduceMul,reduceSub,hw]; exact rfl) (fun p => [(6, .int .i64 (p.1 : Int)), (5, .int .i64 p.2)]) (fun _ => []) (fun _ => ⟨[], []⟩) (fun p => p.1 ≤ r.args.items.length) (fun p => r.args.items.length - p.1) (0, 1) (by simp +decide only[go_sem,reduceAdd,reduceMul,reduceSub,hw] <;> rfl) (by simp) ?_
    rintro ⟨k, q⟩ hk
    simp only at hk ⊢
    by_cases h : k < r.args.items.length
    · have l_x : ((k : Int) < ((r.args.items).length : Int)) = True := by simp; omega
      obtain ⟨x, g_x⟩ : ∃ a_, (r.args.items)[k]? = some a_ := ⟨_, List.getElem?_eq_getElem (by assumption)⟩
      have w_x := wrap_nat k (by omega)
      obtain ⟨v, hv⟩ := ih x (List.mem_of_getElem? g_x) (IntKind.i64.wrap (n - q))
      by_cases hq : q ≤ n
      · refine gw (an hw (an l_x (an g_x (an w_x (an hv hq))))) ?_
        exact ⟨(k + 1, _), by simp +decide only[go_sem,reduceAdd,reduceMul,reduceSub,hw,l_x,g_x,w_x,hv,hq] <;> rfl, by simp only; omega, by simp only; omega⟩
      · refine gw (an hw (an l_x (an g_x (an w_x (an hv hq))))) ?_
        simp +decide only[go_sem,reduceAdd,reduceMul,reduceSub,hw,l_x,g_x,w_x,hv,hq]
        exact ⟨_, rfl⟩
    · have l_e1 : ((k : Int) < ((r.args.items).length : Int)) = False := by simp; omega
      refine gw (an hw l_e1) ?_
      simp +decide only[go_sem,reduceAdd,reduceMul,reduceSub,hw,l_e1]
      exact ⟨_, rfl⟩
  · refine gw hw ?_
    simp +decide only[go_sem,reduceAdd,reduceMul,reduceSub,hw]
    exact ⟨_, rfl⟩
theorem nodes_n : ∀ (N : Nat) (e : Ex), SizeOf.sizeOf (encEx e) < N → ∀ n : Int, ∃ v : Int, callP (XG G) TT 67 [encEx e, .int .i64 n] = some (.int .i64 v)
  | 0, e, h, n => absurd h (Nat.not_lt_zero _)
  | N + 1, e, h, n => by
    obtain ⟨r, he, hs⟩ := e.open
    rw [he]
    exact nodes_step r n fun x hx n => nodes_n N x (by have := hs x hx; omega) n
theorem nodes67 (e : Ex) (n : Int) : ∃ v : Int, callP (XG G) TT 67 [encEx e, .int .i64 n] = some (.int .i64 v) := nodes_n _ e (Nat.lt_succ_self _) n
theorem nodesR (r : ExR) (n : Int) : ∃ v : Int, callP (XG G) TT 67 [r.enc, .int .i64 n] = some (.int .i64 v) := by
  obtain ⟨e, he⟩ := Ex.close r
  rw [← he]; exact nodes67 e n
end Go.Eng
/- Few, of any plan: a bool. -/
namespace Go.Eng
open Go Go.Proofs
open Nat (reduceAdd reduceMul reduceSub)
set_option maxRecDepth 20000
set_option maxHeartbeats 32000000
variable {G : Nat → Option (List D)}
theorem few_step31 (p : PlR) (n : Int) (ih : ∀ x ∈ p.args.items, ∀ n : Int, ∃ b, callP (XG G) TT 31 [encPl x, .int .i64 n] = some (.bool b)) : ∃ b, callP (XG G) TT 31 [p.enc, .int .i64 n] = some (.bool b) := by
  suffices h : ∃ v, callP (XG G) TT 31 [p.enc, .int .i64 n] = some v ∧ ∃ k, v = .bool k by
    obtain ⟨v, h1, k, rfl⟩ := h; exact ⟨k, h1⟩
  obtain ⟨v, hv⟩ := nodesR (G := G) p.r 400
  obtain ⟨f, hf⟩ := choose_mem (l := p.e.items) fun x _ => nodes67 (G := G) x 400
  obtain ⟨g, hg⟩ := choose_mem (l := p.args.items) fun x hx => ih x hx (IntKind.i64.wrap (n - 1))
  simp only [ExR_eq] at hv
  refine callP_body T31 rfl (by simp only [go_sem]) ?_
  unfold Tryd.f31
  simp only [Option.getD_some]
  have hle := p.e.lt
  have hla := p.args.lt
  simp +decide only[go_sem,reduceAdd,reduceMul,reduceSub,hv]
  cases n0 : (n == 0)
  · by_cases l1 : (10 : Int) < (p.c.items.length : Int)
    · refine gw (an hv (an n0 l1)) ?_
      simp +decide only[go_sem,reduceAdd,reduceMul,reduceSub,hv,n0,l1]
      exact ⟨_, rfl⟩
    by_cases l2 : (10 : Int) < (p.e.items.length : Int)
    · refine gw (an hv (an n0 (an l1 l2))) ?_
      simp +decide only[go_sem,reduceAdd,reduceMul,reduceSub,hv,n0,l1,l2]
      exact ⟨_, rfl⟩
    by_cases l3 : (3 : Int) < (p.args.items.length : Int)
    · refine gw (an hv (an n0 (an l1 (an l2 l3)))) ?_
      simp +decide only[go_sem,reduceAdd,reduceMul,reduceSub,hv,n0,l1,l2,l3]
      exact ⟨_, rfl⟩
    by_cases l4 : (400 : Int) < v
    · refine gw (an hv (an n0 (an l1 (an l2 (an l3 l4))))) ?_
      simp +decide only[go_sem,reduceAdd,reduceMul,reduceSub,hv,n0,l1,l2,l3,l4]
      exact ⟨_, rfl⟩
    refine gw (an hv (an n0 (an l1 (an l2 (an l3 l4))))) ?_
    refine wpI_loopC (T := Nat) [1, 2, 5] rfl (by simp +decide only[go_sem,reduceAdd,reduceMul,reduceSub,hv,n0,l1,l2,l3,l4]; exact rfl) (fun k => [(5, .int .i64 (k : Int))]) (fun _ => []) (fun _ => ⟨[], []⟩) (fun k => k ≤ p.e.items.length) (fun k => p.e.items.length - k) 0 (by simp +decide only[go_sem,reduceAdd,reduceMul,reduceSub,hv,n0,l1,l2,l3,l4] <;> rfl) (by simp) ?_
    rintro k hk
    by_cases h : k < p.e.items.length
    · have l_x : ((k : Int) < ((p.e.items).length : Int)) = True := by simp; omega
      obtain ⟨x, g_x⟩ : ∃ a_, (p.e.items)[k]? = some a_ := ⟨_, List.getElem?_eq_getElem (by assumption)⟩
      have w_x := wrap_nat k (by omega)
      have hx := hf x (List.mem_of_getElem? g_x)
      by_cases l5 : (400 : Int) < f x
      · refine gw (an hv (an n0 (an l1 (an l2 (an l3 (an l4 (an l_x (an g_x (an w_x (an hx l5)))))))))) ?_
        simp +decide only[go_sem,reduceAdd,reduceMul,reduceSub,hv,n0,l1,l2,l3,l4,l_x,g_x,w_x,hx,l5]
        exact ⟨_, rfl⟩
      · refine gw (an hv (an n0 (an l1 (an l2 (an l3 (an l4 (an l_x (an g_x (an w_x (an hx l5)))))))))) ?_
        exact ⟨k + 1, by simp +decide only[go_sem,reduceAdd,reduceMul,reduceSub,hv,n0,l1,l2,l3,l4,l_x,g_x,w_x,hx,l5] <;> rfl, by omega, by omega⟩
    have l_e1 : ((k : Int) < ((p.e.items).length : Int)) = False := by simp; omega
    refine gw (an hv (an n0 (an l1 (an l2 (an l3 (an l4 l_e1)))))) ?_
    refine wpI_loopC (T := Nat) [1, 2, 6] rfl (by simp +decide only[go_sem,reduceAdd,reduceMul,reduceSub,hv,n0,l1,l2,l3,l4,l_e1]; exact rfl) (fun k => [(6, .int .i64 (k : Int))]) (fun _ => []) (fun _ => ⟨[], []⟩) (fun k => k ≤ p.args.items.length) (fun k => p.args.items.length - k) 0 (by simp +decide only[go_sem,reduceAdd,reduceMul,reduceSub,hv,n0,l1,l2,l3,l4,l_e1] <;> rfl) (by simp) ?_
    rintro q hq
    by_cases h' : q < p.args.items.length
    · have l_y : ((q : Int) < ((p.args.items).length : Int)) = True := by simp; omega
      obtain ⟨y, g_y⟩ : ∃ a_, (p.args.items)[q]? = some a_ := ⟨_, List.getElem?_eq_getElem (by assumption)⟩
      have w_y := wrap_nat q (by omega)
      have hy := hg y (List.mem_of_getElem? g_y)
      cases g0 : (g y)
      · refine gw (an hv (an n0 (an l1 (an l2 (an l3 (an l4 (an l_e1 (an l_y (an g_y (an w_y (an hy g0))))))))))) ?_
        simp +decide only[go_sem,reduceAdd,reduceMul,reduceSub,hv,n0,l1,l2,l3,l4,l_e1,l_y,g_y,w_y,hy,g0]
        exact ⟨_, rfl⟩
      · refine gw (an hv (an n0 (an l1 (an l2 (an l3 (an l4 (an l_e1 (an l_y (an g_y (an w_y (an hy g0))))))))))) ?_
        exact ⟨q + 1, by simp +decide only[go_sem,reduceAdd,reduceMul,reduceSub,hv,n0,l1,l2,l3,l4,l_e1,l_y,g_y,w_y,hy,g0] <;> rfl, by omega, by omega⟩
    have l_e2 : ((q : Int) < ((p.args.items).length : Int)) = False := by simp; omega
    refine gw (an hv (an n0 (an l1 (an l2 (an l3 (an l4 (an l_e1 l_e2))))))) ?_
    simp +decide only[go_sem,reduceAdd,reduceMul,reduceSub,hv,n0,l1,l2,l3,l4,l_e1,l_e2]
    exact ⟨_, rfl⟩
  · refine gw (an hv n0) ?_
    simp +decide only[go_sem,reduceAdd,reduceMul,reduceSub,hv,n0]
    exact ⟨_, rfl⟩
end Go.Eng
/- What the law asks of a bound statement: bools. -/
namespace Go.Eng
open Go Go.Proofs
open Nat (reduceAdd reduceMul reduceSub)
set_option maxRecDepth 20000
set_option maxHeartbeats 32000000
variable {G : Nat → Option (List D)}
/-- Few, of a plan that has a filter alone. -/
theorem few31 (r : ExR) : ∃ b, callP (XG G) TT 31 [.agg [.int .i64 0, .int .i64 0, .nil, .nil, .int .i64 r.a.1, .str r.s, .str r.t, .int .i64 r.b.1, .int .i64 r.c.1, .int .i64 r.d.1, .str r.u, sl 8 encEx r.args, .nil], .int .i64 1] = some (.bool b) :=
  few_step31 (G := G) ⟨⟨0, by decide⟩, ⟨0, by decide⟩, ⟨none, by simp⟩, ⟨none, by simp⟩, r, ⟨none, by simp⟩⟩ 1 fun x hx => by cases hx
theorem few15 (b : Bnd) (c : Sl Ex) (hc : callP (XG G) TT 46 [b.w.enc] = some (sl 8 encEx c)) : ∃ k, callP (XG G) TT 15 [encBnd b] = some (.bool k) := by
  obtain ⟨q, hq⟩ := few31 (G := G) b.w
  simp only [ExR_eq] at hc
  cases q with
  | false =>
    refine ⟨false, ?_⟩
    refine callP_val T15 rfl (by simp only [go_sem]) ?_
    unfold Tryd.f15
    simp only [Option.getD_some]
    simp +decide only[go_sem,reduceAdd,reduceMul,reduceSub]
    refine gw hq ?_
    simp +decide only[go_sem,reduceAdd,reduceMul,reduceSub]
  | true =>
    refine ⟨decide ((c.items.length : Int) ≤ 8), ?_⟩
    refine callP_val T15 rfl (by simp only [go_sem]) ?_
    unfold Tryd.f15
    simp only [Option.getD_some]
    simp +decide only[go_sem,reduceAdd,reduceMul,reduceSub]
    refine gw (an hq hc) ?_
    simp +decide only[go_sem,reduceAdd,reduceMul,reduceSub]
section
variable (s : Sl Tbl) (b : Bnd) (W : List Nat) (h : WOK s.items b.tabs.items W) (l : Sl I64)
include h
theorem within_step (r : ExR) (ih : ∀ x ∈ r.args.items, ∃ k, callP (XG G) TT 43 [sl 5 encTbl s, encBnd b, encEx x, sl 1 I l] = some (.bool k)) : ∃ k, callP (XG G) TT 43 [sl 5 encTbl s, encBnd b, r.enc, sl 1 I l] = some (.bool k) := by
  suffices h : ∃ v, callP (XG G) TT 43 [sl 5 encTbl s, encBnd b, r.enc, sl 1 I l] = some v ∧ ∃ k, v = .bool k by
    obtain ⟨v, h1, k, rfl⟩ := h; exact ⟨k, h1⟩
  refine callP_body T43 rfl (by simp only [go_sem]) ?_
  unfold Tryd.f43
  simp only [Option.getD_some]
  have c1 := own85 (G := G) s b W h r.b.1
  have c2 := has71 (G := G) l (ownW W r.b.1)
  simp only [encBnd_eq] at c1 ih
  have hlt := r.args.lt
  generalize (l.items.any fun x => x.1 == ownW W r.b.1) = q at *
  simp +decide only[go_sem,reduceAdd,reduceMul,reduceSub,c1,c2]
  cases a0 : (r.a.1 == 2)
  · refine gw (an c1 (an c2 a0)) ?_
    refine wpI_loopC (T := Nat) [0, 3, 5, 6, 9] rfl (by simp +decide only[go_sem,reduceAdd,reduceMul,reduceSub,c1,c2,a0]; exact rfl) (fun k => [(9, .int .i64 (k : Int))]) (fun _ => []) (fun _ => ⟨[], []⟩) (fun k => k ≤ r.args.items.length) (fun k => r.args.items.length - k) 0 (by simp +decide only[go_sem,reduceAdd,reduceMul,reduceSub,c1,c2,a0] <;> rfl) (by simp) ?_
    rintro k hk
    by_cases h : k < r.args.items.length
    · have l_x : ((k : Int) < ((r.args.items).length : Int)) = True := by simp; omega
      obtain ⟨x, g_x⟩ : ∃ a_, (r.args.items)[k]? = some a_ := ⟨_, List.getElem?_eq_getElem (by assumption)⟩
      have w_x := wrap_nat k (by omega)
      obtain ⟨v, hv⟩ := ih x (List.mem_of_getElem? g_x)
      cases v
      · refine gw (an c1 (an c2 (an a0 (an l_x (an g_x (an w_x hv)))))) ?_
        simp +decide only[go_sem,reduceAdd,reduceMul,reduceSub,c1,c2,a0,l_x,g_x,w_x]
        exact ⟨_, rfl⟩
      · refine gw (an c1 (an c2 (an a0 (an l_x (an g_x (an w_x hv)))))) ?_
        exact ⟨k + 1, by simp +decide only[go_sem,reduceAdd,reduceMul,reduceSub,c1,c2,a0,l_x,g_x,w_x] <;> rfl, by omega, by omega⟩
    · have l_e1 : ((k : Int) < ((r.args.items).length : Int)) = False := by simp; omega
      refine gw (an c1 (an c2 (an a0 l_e1))) ?_
      simp +decide only[go_sem,reduceAdd,reduceMul,reduceSub,c1,c2,a0,l_e1]
      exact ⟨_, rfl⟩
  · cases q
    · refine gw (an c1 (an c2 a0)) ?_
      simp +decide only[go_sem,reduceAdd,reduceMul,reduceSub,c1,c2,a0]
      exact ⟨_, rfl⟩
    · refine gw (an c1 (an c2 a0)) ?_
      refine wpI_loopC (T := Nat) [0, 3, 5, 6, 9] rfl (by simp +decide only[go_sem,reduceAdd,reduceMul,reduceSub,c1,c2,a0]; exact rfl) (fun k => [(9, .int .i64 (k : Int))]) (fun _ => []) (fun _ => ⟨[], []⟩) (fun k => k ≤ r.args.items.length) (fun k => r.args.items.length - k) 0 (by simp +decide only[go_sem,reduceAdd,reduceMul,reduceSub,c1,c2,a0] <;> rfl) (by simp) ?_
      rintro k hk
      by_cases h : k < r.args.items.length
      · have l_x : ((k : Int) < ((r.args.items).length : Int)) = True := by simp; omega
        obtain ⟨x, g_x⟩ : ∃ a_, (r.args.items)[k]? = some a_ := ⟨_, List.getElem?_eq_getElem (by assumption)⟩
        have w_x := wrap_nat k (by omega)
        obtain ⟨v, hv⟩ := ih x (List.mem_of_getElem? g_x)
        cases v
        · refine gw (an c1 (an c2 (an a0 (an l_x (an g_x (an w_x hv)))))) ?_
          simp +decide only[go_sem,reduceAdd,reduceMul,reduceSub,c1,c2,a0,l_x,g_x,w_x]
          exact ⟨_, rfl⟩
        · refine gw (an c1 (an c2 (an a0 (an l_x (an g_x (an w_x hv)))))) ?_
          exact ⟨k + 1, by simp +decide only[go_sem,reduceAdd,reduceMul,reduceSub,c1,c2,a0,l_x,g_x,w_x] <;> rfl, by omega, by omega⟩
      · have l_e1 : ((k : Int) < ((r.args.items).length : Int)) = False := by simp; omega
        refine gw (an c1 (an c2 (an a0 l_e1))) ?_
        simp +decide only[go_sem,reduceAdd,reduceMul,reduceSub,c1,c2,a0,l_e1]
        exact ⟨_, rfl⟩
theorem within_n : ∀ (N : Nat) (e : Ex), SizeOf.sizeOf (encEx e) < N → ∃ k, callP (XG G) TT 43 [sl 5 encTbl s, encBnd b, encEx e, sl 1 I l] = some (.bool k)
  | 0, e, hN => absurd hN (Nat.not_lt_zero _)
  | N + 1, e, hN => by
    obtain ⟨r, he, hs⟩ := e.open
    rw [he]
    exact within_step s b W h l r fun x hx => within_n N x (by have := hs x hx; omega)
theorem within43 (r : ExR) : ∃ k, callP (XG G) TT 43 [sl 5 encTbl s, encBnd b, r.enc, sl 1 I l] = some (.bool k) := by
  obtain ⟨e, he⟩ := Ex.close r
  rw [← he]; exact within_n s b W h l _ e (Nat.lt_succ_self _)
end
end Go.Eng
