/- A part of the proof: see the last text. -/
import Derived.Test.YtcfmjomniaopcaaDoorKR2Pj
import Derived.Test.YtcfmjomniaopcaaDoorKR2Pg
set_option linter.unusedSimpArgs false
set_option linter.unusedVariables false
/- What the guards say of a plan: few, pairs. -/
namespace Go.Eng
open Go Go.Proofs
open Nat (reduceAdd reduceMul reduceSub)
set_option maxRecDepth 20000
set_option maxHeartbeats 32000000
attribute [local irreducible] wpI endP
theorem enc_inj {a b : Ex} (h : encEx a = encEx b) : a = b := Subtype.ext h
theorem map_inj : ∀ {l l' : List Ex}, l.map encEx = l'.map encEx → l = l'
  | [], [], _ => rfl
  | [], _ :: _, h => by cases h
  | _ :: _, [], h => by cases h
  | a :: l, b :: l', h => by
    simp only [List.map_cons, List.cons.injEq] at h
    rw [enc_inj h.1, map_inj h.2]
theorem enc_args {r r' : ExR} (h : r.enc = r'.enc) : r.args.items = r'.args.items ∧ r.a.1 = r'.a.1 := by
  simp only [ExR_eq, D.agg.injEq, List.cons.injEq] at h
  have h3 : sl 8 encEx r.args = sl 8 encEx r'.args := h.2.2.2.2.2.2.2.1
  have h4 := elems_sl (k := 8) (f := encEx) (s := r.args) (m := ⟨[], []⟩)
  have h5 := elems_sl (k := 8) (f := encEx) (s := r'.args) (m := ⟨[], []⟩)
  rw [h3, h5] at h4
  refine ⟨(map_inj (Option.some.inj h4)).symm, ?_⟩
  have h6 := h.1
  simp only [D.int.injEq, true_and] at h6
  exact h6
theorem cj_inv {d : D} {L : List Ex} (h : CjL d L) (r : ExR) (e : d = r.enc) : L.length ≤ 1 ∨ ∃ x y A B, r.args.items = [x, y] ∧ L = A ++ B ∧ CjL (encEx x) A ∧ CjL (encEx y) B := by
  cases h with
  | none r' h => exact .inl (Nat.zero_le _)
  | one e r' he h0 h1 => exact .inl (Nat.le_refl _)
  | and r' x y h hx A B ha hb => exact .inr ⟨x, y, A, B, by rw [← (enc_args e).1, hx], rfl, ha, hb⟩
section
variable {G : Nat → Option (List D)}
structure NInv (r : ExR) (n : Nat) (p : Nat × List Nat) : Prop where
  len : p.2.length = p.1
  le : p.1 ≤ r.args.items.length
  q : 1 + p.2.sum ≤ n + 1
  ok : ∀ i x v, i < p.1 → r.args.items[i]? = some x → p.2[i]? = some v → (1 + (p.2.take (i + 1)).sum ≤ n → ∀ L, CjL (encEx x) L → L.length ≤ v)
theorem nodes_end {r : ExR} {n : Nat} {p : Nat × List Nat} (h : NInv r n p) (hk : p.1 = r.args.items.length) : 1 + p.2.sum ≤ n → ∀ L, CjL r.enc L → L.length ≤ 1 + p.2.sum := by
  intro hq L hL
  rcases cj_inv hL r rfl with h1 | ⟨x, y, A, B, hx, rfl, hA, hB⟩
  · omega
  · obtain ⟨k, vs⟩ := p
    obtain ⟨h1, h2, h3, h4⟩ := h
    simp only at h1 h2 h3 h4 hk hq ⊢
    rw [hx] at hk
    match vs, h1 with
    | [], h1 => simp at h1 hk; omega
    | [a], h1 => simp at h1 hk; omega
    | [a, b], h1 =>
      simp only [List.sum_cons, List.sum_nil] at hq ⊢
      have e1 := h4 0 x a (by simp at hk; omega) (by rw [hx]; rfl) rfl (by simp; omega) A hA
      have e2 := h4 1 y b (by simp at hk; omega) (by rw [hx]; rfl) rfl (by simp; omega) B hB
      rw [List.length_append]; omega
    | _ :: _ :: _ :: _, h1 => simp at h1 hk; omega
/-- The number of nodes, or more than the limit. -/
theorem nodesN_step (r : ExR) (n : Nat) (hn : n ≤ 400) (ih : ∀ x ∈ r.args.items, ∀ n : Nat, n ≤ 400 → ∃ v : Nat, callP (XG G) TT 67 [encEx x, .int .i64 (n : Int)] = some (.int .i64 (v : Int)) ∧ 1 ≤ v ∧ v ≤ n + 1 ∧ (v ≤ n → ∀ L, CjL (encEx x) L → L.length ≤ v)) :
    ∃ v : Nat, callP (XG G) TT 67 [r.enc, .int .i64 (n : Int)] = some (.int .i64 (v : Int)) ∧ 1 ≤ v ∧ v ≤ n + 1 ∧ (v ≤ n → ∀ L, CjL r.enc L → L.length ≤ v) := by
  suffices h : ∃ v, callP (XG G) TT 67 [r.enc, .int .i64 (n : Int)] = some v ∧ ∃ k : Nat, v = .int .i64 (k : Int) ∧ 1 ≤ k ∧ k ≤ n + 1 ∧ (k ≤ n → ∀ L, CjL r.enc L → L.length ≤ k) by
    obtain ⟨v, h1, k, rfl, h2⟩ := h; exact ⟨k, h1, h2⟩
  refine callP_body T67 rfl (by simp only [go_sem, strip_ExR]) ?_
  unfold Tryd.f67
  simp only [Option.getD_some]
  have hlt := r.args.lt
  have hw : ∃ b, decide (100 < IntKind.i64.wrap (IntKind.i64.wrap ((r.t.length : Int) + (r.s.length : Int)) + (r.u.length : Int))) = b := ⟨_, rfl⟩
  obtain ⟨b, hw⟩ := hw
  have wn := wrap_nat n (by omega)
  simp +decide only[go_sem,reduceAdd,reduceMul,reduceSub,hw,wn]
  refine gw (an hw wn) ?_
  cases b
  · refine gw (an hw wn) ?_
    refine wpI_loopC (T := Nat × List Nat) [1, 2, 5, 6] rfl (by simp +decide only[go_sem,reduceAdd,reduceMul,reduceSub,hw,wn]; exact rfl) (fun p => [(6, .int .i64 (p.1 : Int)), (5, .int .i64 ((1 + p.2.sum : Nat) : Int))]) (fun _ => []) (fun _ => ⟨[], []⟩) (NInv r n) (fun p => r.args.items.length - p.1) (0, []) (by simp +decide only[go_sem,reduceAdd,reduceMul,reduceSub,hw,wn] <;> rfl) (by exact ⟨rfl, Nat.zero_le _, by simp, fun i x v h => absurd h (Nat.not_lt_zero _)⟩) ?_
    rintro ⟨k, vs⟩ hI
    have hI' := hI
    obtain ⟨h1, h2, h3, h4⟩ := hI
    simp only at h1 h2 h3 h4 ⊢
    by_cases h : k < r.args.items.length
    · have l_x : ((k : Int) < ((r.args.items).length : Int)) = True := by simp; omega
      obtain ⟨x, g_x⟩ : ∃ a_, (r.args.items)[k]? = some a_ := ⟨_, List.getElem?_eq_getElem (by assumption)⟩
      have w_x := wrap_nat k (by omega)
      by_cases hq : 1 + vs.sum ≤ n
      · have hl : (((1 + vs.sum : Nat) : Int) ≤ (n : Int)) = True := eq_true (by omega)
        obtain ⟨v, hv, v1, v2, v3⟩ := ih x (List.mem_of_getElem? g_x) (n - (1 + vs.sum)) (by omega)
        have ws : IntKind.i64.wrap ((n : Int) - ((1 + vs.sum : Nat) : Int)) = ((n - (1 + vs.sum) : Nat) : Int) := by rw [wrap_fit _ (by omega)]; omega
        have wa := wrap_add (1 + vs.sum) v (by omega)
        have es : 1 + vs.sum + v = 1 + (vs ++ [v]).sum := by rw [List.sum_append]; simp; omega
        rw [es] at wa
        generalize hqq : 1 + vs.sum = q at *
        refine gw (an hw (an wn (an l_x (an g_x (an w_x (an hl (an hv (an ws wa)))))))) ?_
        refine ⟨(k + 1, vs ++ [v]), by simp +decide only[go_sem,reduceAdd,reduceMul,reduceSub,hw,wn,l_x,g_x,w_x] <;> rfl, ⟨by simp [h1], by simp only; omega, by simp only; omega, fun i y u hi hy hu hle => ?_⟩, by simp only; omega⟩
        simp only at hi hu hle
        by_cases hik : i < k
        · rw [List.getElem?_append_left (by omega)] at hu
          rw [List.take_append_of_le_length (by omega)] at hle
          exact h4 i y u hik hy hu hle
        · obtain rfl : i = k := by omega
          rw [g_x] at hy
          cases hy
          rw [List.getElem?_append_right (by omega), h1, Nat.sub_self] at hu
          cases hu
          rw [List.take_of_length_le (by simp [h1])] at hle
          exact v3 (by omega)
      · have hl : (((1 + vs.sum : Nat) : Int) ≤ (n : Int)) = False := eq_false (by omega)
        refine gw (an hw (an wn (an l_x (an g_x (an w_x hl))))) ?_
        simp +decide only[go_sem,reduceAdd,reduceMul,reduceSub,hw,wn,l_x,g_x,w_x]
        exact ⟨_, rfl, by omega, by omega, fun h => absurd h hq⟩
    · have l_e1 : ((k : Int) < ((r.args.items).length : Int)) = False := by simp; omega
      refine gw (an hw (an wn l_e1)) ?_
      simp +decide only[go_sem,reduceAdd,reduceMul,reduceSub,hw,wn,l_e1]
      exact ⟨_, rfl, by omega, by omega, nodes_end hI' (by simp only; omega)⟩
  · refine gw (an hw wn) ?_
    simp +decide only[go_sem,reduceAdd,reduceMul,reduceSub,hw,wn]
    exact ⟨n + 1, rfl, by omega, by omega, fun h => by omega⟩
theorem nodesN_n : ∀ (N : Nat) (e : Ex), SizeOf.sizeOf (encEx e) < N → ∀ n : Nat, n ≤ 400 → ∃ v : Nat, callP (XG G) TT 67 [encEx e, .int .i64 (n : Int)] = some (.int .i64 (v : Int)) ∧ 1 ≤ v ∧ v ≤ n + 1 ∧ (v ≤ n → ∀ L, CjL (encEx e) L → L.length ≤ v)
  | 0, e, h, n, _ => absurd h (Nat.not_lt_zero _)
  | N + 1, e, h, n, hn => by
    obtain ⟨r, he, hs⟩ := e.open
    rw [he]
    exact nodesN_step r n hn fun x hx n hn => nodesN_n N x (by have := hs x hx; omega) n hn
theorem nodesN (r : ExR) (n : Nat) (hn : n ≤ 400) : ∃ v : Nat, callP (XG G) TT 67 [r.enc, .int .i64 (n : Int)] = some (.int .i64 (v : Int)) ∧ 1 ≤ v ∧ v ≤ n + 1 ∧ (v ≤ n → ∀ L, CjL r.enc L → L.length ≤ v) := by
  obtain ⟨e, he⟩ := Ex.close r
  rw [← he]; exact nodesN_n _ e (Nat.lt_succ_self _) n hn
end
end Go.Eng
/- What the guards say of a plan: few, filters. -/
namespace Go.Eng
open Go Go.Proofs
open Nat (reduceAdd reduceMul reduceSub)
set_option maxRecDepth 20000
set_option maxHeartbeats 32000000
attribute [local irreducible] wpI endP
/-- A bool that, if true, says something. -/
inductive BoolP (P : Prop) : D → Prop
  | no : BoolP P (.bool false)
  | yes (h : P) : BoolP P (.bool true)
theorem boolP_of {X : Ctx} {T : Nat → Option Fx} {g : Nat} {ds : List D} {R : Prop} (h : ∀ P : Prop, (R → P) → ∃ v, callP X T g ds = some v ∧ BoolP P v) : ∃ b, callP X T g ds = some (.bool b) ∧ (b = true → R) := by
  obtain ⟨v, h1, h2⟩ := h R id
  cases h2 with
  | no => exact ⟨false, h1, fun h => by cases h⟩
  | yes h => exact ⟨true, h1, fun _ => h⟩
theorem sl_inj {α : Type} {k : Nat} {f : α → D} (hf : ∀ a b, f a = f b → a = b) {s t : Sl α} (h : sl k f s = sl k f t) : s.items = t.items := by
  have h4 := elems_sl (k := k) (f := f) (s := s) (m := ⟨[], []⟩)
  have h5 := elems_sl (k := k) (f := f) (s := t) (m := ⟨[], []⟩)
  rw [h, h5] at h4
  have h6 := Option.some.inj h4
  have : ∀ {l l' : List α}, l.map f = l'.map f → l = l' := by
    intro l
    induction l with
    | nil => intro l' h; cases l' with | nil => rfl | cons a r => cases h
    | cons a r ih => intro l' h; cases l' with
      | nil => cases h
      | cons b r' => simp only [List.map_cons, List.cons.injEq] at h; rw [hf _ _ h.1, ih h.2]
  exact (this h6).symm
theorem I_inj (a b : I64) (h : I a = I b) : a = b := by
  simp only [I_eq, D.int.injEq, true_and] at h; exact Subtype.ext h
theorem pl_inj {p q : PlR} (h : p.enc = q.enc) : p.k = q.k ∧ p.s = q.s ∧ p.c.items = q.c.items ∧ p.e.items = q.e.items ∧ p.r.enc = q.r.enc ∧ p.args.items = q.args.items := by
  simp only [PlR_eq, D.agg.injEq, List.cons.injEq] at h
  obtain ⟨h0, h1, h2, h3, h4, h5, h6, h7, h8, h9, h10, h11, h12, _⟩ := h
  refine ⟨I_inj _ _ h0, I_inj _ _ h1, sl_inj I_inj h2, sl_inj (fun a b h => enc_inj h) h3, ?_, sl_inj (fun a b h => Subtype.ext h) h12⟩
  rw [ExR_eq, ExR_eq, h4, h5, h6, h7, h8, h9, h10, h11]
/-- A plan that is small. -/
inductive FewN : Nat → D → Prop
  | mk (n : Nat) (p : PlR) (hc : p.c.items.length ≤ 10) (he : p.e.items.length ≤ 10) (ha : p.args.items.length ≤ 3) (hr : ∀ L, CjL p.r.enc L → L.length ≤ 400) (k : ∀ x ∈ p.args.items, FewN n (encPl x)) : FewN (n + 1) p.enc
theorem FewN.open {n : Nat} {p : PlR} (h : FewN n p.enc) : ∃ m, n = m + 1 ∧ p.c.items.length ≤ 10 ∧ p.e.items.length ≤ 10 ∧ p.args.items.length ≤ 3 ∧ (∀ L, CjL p.r.enc L → L.length ≤ 400) ∧ ∀ x ∈ p.args.items, FewN m (encPl x) := by
  generalize hd : p.enc = d at h
  cases h with
  | mk m q hc he ha hr k =>
    obtain ⟨_, _, e1, e2, e3, e4⟩ := pl_inj hd
    exact ⟨m, rfl, e1 ▸ hc, e2 ▸ he, e4 ▸ ha, e3 ▸ hr, e4 ▸ k⟩
section
variable {G : Nat → Option (List D)}
theorem few31N : ∀ (n : Nat), n ≤ 100 → ∀ p : PlR, ∃ b, callP (XG G) TT 31 [p.enc, .int .i64 (n : Int)] = some (.bool b) ∧ (b = true → FewN n p.enc) := by
  intro n
  induction n with
  | zero =>
    intro _ p
    refine ⟨false, ?_, fun h => by cases h⟩
    refine callP_val T31 rfl (by simp only [go_sem]) ?_
    unfold Tryd.f31
    simp only [Option.getD_some]
    have h0 : (((0 : Nat) : Int) == 0) = true := rfl
    simp +decide only[go_sem,reduceAdd,reduceMul,reduceSub]
    refine gw h0 ?_
    simp +decide only[go_sem,reduceAdd,reduceMul,reduceSub]
  | succ n ih =>
    intro hn p
    refine boolP_of fun P hR => ?_
    obtain ⟨v, hv, v1, v2, v3⟩ := nodesN (G := G) p.r 400 (by omega)
    have hv : callP (XG G) TT 67 [p.r.enc, .int .i64 400] = some (.int .i64 (v : Int)) := hv
    obtain ⟨f, hf⟩ := choose_mem (l := p.e.items) fun x _ => nodes67 (G := G) x 400
    have hg : ∀ x ∈ p.args.items, ∃ b, callP (XG G) TT 31 [encPl x, .int .i64 (n : Int)] = some (.bool b) ∧ (b = true → FewN n (encPl x)) := fun x _ => by
      obtain ⟨q, hq, _⟩ := x.open
      rw [hq]; exact ih (by omega) q
    simp only [ExR_eq] at hv
    have h0 := dep0 n
    have h1 := dep1 n (by omega)
    refine callP_body T31 rfl (by simp only [go_sem]) ?_
    unfold Tryd.f31
    simp only [Option.getD_some]
    have hle := p.e.lt
    have hla := p.args.lt
    simp +decide only[go_sem,reduceAdd,reduceMul,reduceSub,hv,h0,h1]
    by_cases l1 : (10 : Int) < (p.c.items.length : Int)
    · refine gw (an hv (an h0 (an h1 l1))) ?_
      simp +decide only[go_sem,reduceAdd,reduceMul,reduceSub,hv,h0,h1,l1]
      exact .no
    by_cases l2 : (10 : Int) < (p.e.items.length : Int)
    · refine gw (an hv (an h0 (an h1 (an l1 l2)))) ?_
      simp +decide only[go_sem,reduceAdd,reduceMul,reduceSub,hv,h0,h1,l1,l2]
      exact .no
    by_cases l3 : (3 : Int) < (p.args.items.length : Int)
    · refine gw (an hv (an h0 (an h1 (an l1 (an l2 l3))))) ?_
      simp +decide only[go_sem,reduceAdd,reduceMul,reduceSub,hv,h0,h1,l1,l2,l3]
      exact .no
    by_cases l4 : (400 : Int) < (v : Int)
    · refine gw (an hv (an h0 (an h1 (an l1 (an l2 (an l3 l4)))))) ?_
      simp +decide only[go_sem,reduceAdd,reduceMul,reduceSub,hv,h0,h1,l1,l2,l3,l4]
      exact .no
    refine gw (an hv (an h0 (an h1 (an l1 (an l2 (an l3 l4)))))) ?_
    refine wpI_loopC (T := Nat) [1, 2, 5] rfl (by simp +decide only[go_sem,reduceAdd,reduceMul,reduceSub,hv,h0,h1,l1,l2,l3,l4]; exact rfl) (fun k => [(5, .int .i64 (k : Int))]) (fun _ => []) (fun _ => ⟨[], []⟩) (fun k => k ≤ p.e.items.length) (fun k => p.e.items.length - k) 0 (by simp +decide only[go_sem,reduceAdd,reduceMul,reduceSub,hv,h0,h1,l1,l2,l3,l4] <;> rfl) (by simp) ?_
    rintro k hk
    by_cases h : k < p.e.items.length
    · have l_x : ((k : Int) < ((p.e.items).length : Int)) = True := by simp; omega
      obtain ⟨x, g_x⟩ : ∃ a_, (p.e.items)[k]? = some a_ := ⟨_, List.getElem?_eq_getElem (by assumption)⟩
      have w_x := wrap_nat k (by omega)
      have hx := hf x (List.mem_of_getElem? g_x)
      by_cases l5 : (400 : Int) < f x
      · refine gw (an hv (an h0 (an h1 (an l1 (an l2 (an l3 (an l4 (an l_x (an g_x (an w_x (an hx l5))))))))))) ?_
        simp +decide only[go_sem,reduceAdd,reduceMul,reduceSub,hv,h0,h1,l1,l2,l3,l4,l_x,g_x,w_x,hx,l5]
        exact .no
      · refine gw (an hv (an h0 (an h1 (an l1 (an l2 (an l3 (an l4 (an l_x (an g_x (an w_x (an hx l5))))))))))) ?_
        exact ⟨k + 1, by simp +decide only[go_sem,reduceAdd,reduceMul,reduceSub,hv,h0,h1,l1,l2,l3,l4,l_x,g_x,w_x,hx,l5] <;> rfl, by omega, by omega⟩
    have l_e1 : ((k : Int) < ((p.e.items).length : Int)) = False := by simp; omega
    refine gw (an hv (an h0 (an h1 (an l1 (an l2 (an l3 (an l4 l_e1))))))) ?_
    refine wpI_loopC (T := Nat) [1, 2, 6] rfl (by simp +decide only[go_sem,reduceAdd,reduceMul,reduceSub,hv,h0,h1,l1,l2,l3,l4,l_e1]; exact rfl) (fun k => [(6, .int .i64 (k : Int))]) (fun _ => []) (fun _ => ⟨[], []⟩) (fun k => k ≤ p.args.items.length ∧ ∀ x ∈ p.args.items.take k, FewN n (encPl x)) (fun k => p.args.items.length - k) 0 (by simp +decide only[go_sem,reduceAdd,reduceMul,reduceSub,hv,h0,h1,l1,l2,l3,l4,l_e1] <;> rfl) (by exact ⟨Nat.zero_le _, fun x hx => by simp at hx⟩) ?_
    rintro q ⟨hq, hP⟩
    by_cases h' : q < p.args.items.length
    · have l_y : ((q : Int) < ((p.args.items).length : Int)) = True := by simp; omega
      obtain ⟨y, g_y⟩ : ∃ a_, (p.args.items)[q]? = some a_ := ⟨_, List.getElem?_eq_getElem (by assumption)⟩
      have w_y := wrap_nat q (by omega)
      obtain ⟨b, hy, hyb⟩ := hg y (List.mem_of_getElem? g_y)
      cases b
      · refine gw (an hv (an h0 (an h1 (an l1 (an l2 (an l3 (an l4 (an l_e1 (an l_y (an g_y (an w_y hy))))))))))) ?_
        simp +decide only[go_sem,reduceAdd,reduceMul,reduceSub,hv,h0,h1,l1,l2,l3,l4,l_e1,l_y,g_y,w_y,hy]
        exact .no
      · refine gw (an hv (an h0 (an h1 (an l1 (an l2 (an l3 (an l4 (an l_e1 (an l_y (an g_y (an w_y hy))))))))))) ?_
        refine ⟨q + 1, by simp +decide only[go_sem,reduceAdd,reduceMul,reduceSub,hv,h0,h1,l1,l2,l3,l4,l_e1,l_y,g_y,w_y,hy] <;> rfl, ⟨by omega, ?_⟩, by omega⟩
        intro z hz
        rw [List.take_add_one, g_y] at hz
        rcases List.mem_append.1 hz with hz | hz
        · exact hP z hz
        · have hz : z = y := by simpa using hz
          subst hz; exact hyb rfl
    have l_e2 : ((q : Int) < ((p.args.items).length : Int)) = False := by simp; omega
    rw [List.take_of_length_le (by omega)] at hP
    refine gw (an hv (an h0 (an h1 (an l1 (an l2 (an l3 (an l4 (an l_e1 l_e2)))))))) ?_
    simp +decide only[go_sem,reduceAdd,reduceMul,reduceSub,hv,h0,h1,l1,l2,l3,l4,l_e1,l_e2]
    exact .yes (hR (.mk n p (by omega) (by omega) (by omega) (fun L hL => by have := v3 (by omega) L hL; omega) hP))
end
end Go.Eng
/- What the guards say of a plan: filters, absent expressions. -/
namespace Go.Eng
open Go Go.Proofs
open Nat (reduceAdd reduceMul reduceSub)
set_option maxRecDepth 20000
set_option maxHeartbeats 32000000
attribute [local irreducible] wpI endP
inductive PairE : D → Prop
  | mk (r : ExR) (hA : r.a.1 = 18 → r.args.items.length = 2) (k : ∀ x ∈ r.args.items, PairE (encEx x)) : PairE r.enc
theorem cj_pair {d : D} (h : PairE d) : ∀ e : Ex, encEx e = d → ∃ L, CjL d L := by
  induction h with
  | mk r hA k ih =>
    intro e he
    by_cases h0 : r.a.1 = 0
    · exact ⟨[], .none r h0⟩
    by_cases h18 : r.a.1 = 18
    · obtain ⟨x, y, hxy⟩ := two_of (hA h18)
      obtain ⟨A, hA1⟩ := ih x (by rw [hxy]; simp) x rfl
      obtain ⟨B, hB1⟩ := ih y (by rw [hxy]; simp) y rfl
      exact ⟨A ++ B, .and r x y h18 hxy A B hA1 hB1⟩
    · exact ⟨[e], he ▸ .one e r he h0 h18⟩
section
variable {G : Nat → Option (List D)}
theorem pairs_step (r : ExR) (ih : ∀ x ∈ r.args.items, ∃ b, callP (XG G) TT 68 [encEx x] = some (.bool b) ∧ (b = true → PairE (encEx x))) : ∃ b, callP (XG G) TT 68 [r.enc] = some (.bool b) ∧ (b = true → PairE r.enc) := by
  refine boolP_of fun P hR => ?_
  refine callP_body T68 rfl (by simp only [go_sem, strip_ExR]) ?_
  unfold Tryd.f68
  simp only [Option.getD_some]
  have hlt := r.args.lt
  have hend : (∀ x ∈ r.args.items, PairE (encEx x)) → (r.a.1 = 18 → r.args.items.length = 2) → P := fun h1 h2 => hR (.mk r h2 h1)
  clear hR
  simp +decide only[go_sem,reduceAdd,reduceMul,reduceSub]
  cases h18 : (r.a.1 == 18)
  · refine gw h18 ?_
    refine wpI_loopC (T := Nat) [1, 3] rfl (by simp +decide only[go_sem,reduceAdd,reduceMul,reduceSub,h18]; exact rfl) (fun k => [(3, .int .i64 (k : Int))]) (fun _ => []) (fun _ => ⟨[], []⟩) (fun k => k ≤ r.args.items.length ∧ ∀ x ∈ r.args.items.take k, PairE (encEx x)) (fun k => r.args.items.length - k) 0 (by simp +decide only[go_sem,reduceAdd,reduceMul,reduceSub,h18] <;> rfl) (by exact ⟨Nat.zero_le _, fun x hx => by simp at hx⟩) ?_
    rintro k ⟨hk, hP⟩
    by_cases h : k < r.args.items.length
    · have l_x : ((k : Int) < ((r.args.items).length : Int)) = True := by simp; omega
      obtain ⟨x, g_x⟩ : ∃ a_, (r.args.items)[k]? = some a_ := ⟨_, List.getElem?_eq_getElem (by assumption)⟩
      have w_x := wrap_nat k (by omega)
      obtain ⟨b, hb, hbx⟩ := ih x (List.mem_of_getElem? g_x)
      cases b
      · refine gw (an h18 (an l_x (an g_x (an w_x hb)))) ?_
        simp +decide only[go_sem,reduceAdd,reduceMul,reduceSub,h18,l_x,g_x,w_x,hb]
        exact .no
      · refine gw (an h18 (an l_x (an g_x (an w_x hb)))) ?_
        refine ⟨k + 1, by simp +decide only[go_sem,reduceAdd,reduceMul,reduceSub,h18,l_x,g_x,w_x,hb] <;> rfl, ⟨by omega, fun z hz => ?_⟩, by omega⟩
        rw [List.take_add_one, g_x] at hz
        rcases List.mem_append.1 hz with hz | hz
        · exact hP z hz
        · have hz : z = x := by simpa using hz
          subst hz; exact hbx rfl
    · have l_e1 : ((k : Int) < ((r.args.items).length : Int)) = False := by simp; omega
      rw [List.take_of_length_le (by omega)] at hP
      refine gw (an h18 l_e1) ?_
      simp +decide only[go_sem,reduceAdd,reduceMul,reduceSub,h18,l_e1]
      exact .yes (hend hP fun e => by rw [e] at h18; cases h18)
  · cases h2 : ((r.args.items.length : Int) != 2)
    · refine gw (an h18 h2) ?_
      refine wpI_loopC (T := Nat) [1, 3] rfl (by simp +decide only[go_sem,reduceAdd,reduceMul,reduceSub,h18,h2]; exact rfl) (fun k => [(3, .int .i64 (k : Int))]) (fun _ => []) (fun _ => ⟨[], []⟩) (fun k => k ≤ r.args.items.length ∧ ∀ x ∈ r.args.items.take k, PairE (encEx x)) (fun k => r.args.items.length - k) 0 (by simp +decide only[go_sem,reduceAdd,reduceMul,reduceSub,h18,h2] <;> rfl) (by exact ⟨Nat.zero_le _, fun x hx => by simp at hx⟩) ?_
      rintro k ⟨hk, hP⟩
      by_cases h : k < r.args.items.length
      · have l_x : ((k : Int) < ((r.args.items).length : Int)) = True := by simp; omega
        obtain ⟨x, g_x⟩ : ∃ a_, (r.args.items)[k]? = some a_ := ⟨_, List.getElem?_eq_getElem (by assumption)⟩
        have w_x := wrap_nat k (by omega)
        obtain ⟨b, hb, hbx⟩ := ih x (List.mem_of_getElem? g_x)
        cases b
        · refine gw (an h18 (an h2 (an l_x (an g_x (an w_x hb))))) ?_
          simp +decide only[go_sem,reduceAdd,reduceMul,reduceSub,h18,h2,l_x,g_x,w_x,hb]
          exact .no
        · refine gw (an h18 (an h2 (an l_x (an g_x (an w_x hb))))) ?_
          refine ⟨k + 1, by simp +decide only[go_sem,reduceAdd,reduceMul,reduceSub,h18,h2,l_x,g_x,w_x,hb] <;> rfl, ⟨by omega, fun z hz => ?_⟩, by omega⟩
          rw [List.take_add_one, g_x] at hz
          rcases List.mem_append.1 hz with hz | hz
          · exact hP z hz
          · have hz : z = x := by simpa using hz
            subst hz; exact hbx rfl
      · have l_e1 : ((k : Int) < ((r.args.items).length : Int)) = False := by simp; omega
        rw [List.take_of_length_le (by omega)] at hP
        refine gw (an h18 (an h2 l_e1)) ?_
        simp +decide only[go_sem,reduceAdd,reduceMul,reduceSub,h18,h2,l_e1]
        exact .yes (hend hP fun _ => by simp at h2; omega)
    · refine gw (an h18 h2) ?_
      simp +decide only[go_sem,reduceAdd,reduceMul,reduceSub,h18,h2]
      exact .no
theorem pairs_n : ∀ (N : Nat) (e : Ex), SizeOf.sizeOf (encEx e) < N → ∃ b, callP (XG G) TT 68 [encEx e] = some (.bool b) ∧ (b = true → PairE (encEx e))
  | 0, e, h => absurd h (Nat.not_lt_zero _)
  | N + 1, e, h => by
    obtain ⟨r, he, hs⟩ := e.open
    rw [he]
    exact pairs_step r fun x hx => pairs_n N x (by have := hs x hx; omega)
theorem pairs68 (r : ExR) : ∃ b, callP (XG G) TT 68 [r.enc] = some (.bool b) ∧ (b = true → ∃ L, CjL r.enc L) := by
  obtain ⟨e, he⟩ := Ex.close r
  obtain ⟨b, h1, h2⟩ := pairs_n (G := G) _ e (Nat.lt_succ_self _)
  rw [he] at h1 h2
  exact ⟨b, h1, fun hb => cj_pair (h2 hb) e he⟩
/-- A plan whose filters have conjuncts. -/
inductive FltP : D → Prop
  | mk (p : PlR) (hr : ∃ L, CjL p.r.enc L) (k : ∀ x ∈ p.args.items, FltP (encPl x)) : FltP p.enc
theorem FltP.open {p : PlR} (h : FltP p.enc) : (∃ L, CjL p.r.enc L) ∧ ∀ x ∈ p.args.items, FltP (encPl x) := by
  generalize hd : p.enc = d at h
  cases h with
  | mk q hr k =>
    obtain ⟨_, _, _, _, e3, e4⟩ := pl_inj hd
    exact ⟨e3 ▸ hr, e4 ▸ k⟩
theorem flt_step (p : PlR) (ih : ∀ x ∈ p.args.items, ∃ b, callP (XG G) TT 32 [encPl x] = some (.bool b) ∧ (b = true → FltP (encPl x))) : ∃ b, callP (XG G) TT 32 [p.enc] = some (.bool b) ∧ (b = true → FltP p.enc) := by
  obtain ⟨q, hq, hqr⟩ := pairs68 (G := G) p.r
  refine boolP_of fun P hR => ?_
  have hend : q = true → (∀ x ∈ p.args.items, FltP (encPl x)) → P := fun h1 h2 => hR (.mk p (hqr h1) h2)
  clear hR
  simp only [ExR_eq] at hq
  refine callP_body T32 rfl (by simp only [go_sem]) ?_
  unfold Tryd.f32
  simp only [Option.getD_some]
  have hlt := p.args.lt
  simp +decide only[go_sem,reduceAdd,reduceMul,reduceSub,hq]
  cases q
  · refine gw hq ?_
    simp +decide only[go_sem,reduceAdd,reduceMul,reduceSub,hq]
    exact .no
  · refine gw hq ?_
    refine wpI_loopC (T := Nat) [1, 3] rfl (by simp +decide only[go_sem,reduceAdd,reduceMul,reduceSub,hq]; exact rfl) (fun k => [(3, .int .i64 (k : Int))]) (fun _ => []) (fun _ => ⟨[], []⟩) (fun k => k ≤ p.args.items.length ∧ ∀ x ∈ p.args.items.take k, FltP (encPl x)) (fun k => p.args.items.length - k) 0 (by simp +decide only[go_sem,reduceAdd,reduceMul,reduceSub,hq] <;> rfl) (by exact ⟨Nat.zero_le _, fun x hx => by simp at hx⟩) ?_
    rintro k ⟨hk, hP⟩
    by_cases h : k < p.args.items.length
    · have l_x : ((k : Int) < ((p.args.items).length : Int)) = True := by simp; omega
      obtain ⟨x, g_x⟩ : ∃ a_, (p.args.items)[k]? = some a_ := ⟨_, List.getElem?_eq_getElem (by assumption)⟩
      have w_x := wrap_nat k (by omega)
      obtain ⟨b, hb, hbx⟩ := ih x (List.mem_of_getElem? g_x)
      cases b
      · refine gw (an hq (an l_x (an g_x (an w_x hb)))) ?_
        simp +decide only[go_sem,reduceAdd,reduceMul,reduceSub,hq,l_x,g_x,w_x,hb]
        exact .no
      · refine gw (an hq (an l_x (an g_x (an w_x hb)))) ?_
        refine ⟨k + 1, by simp +decide only[go_sem,reduceAdd,reduceMul,reduceSub,hq,l_x,g_x,w_x,hb] <;> rfl, ⟨by omega, fun z hz => ?_⟩, by omega⟩
        rw [List.take_add_one, g_x] at hz
        rcases List.mem_append.1 hz with hz | hz
        · exact hP z hz
        · have hz : z = x := by simpa using hz
          subst hz; exact hbx rfl
    · have l_e1 : ((k : Int) < ((p.args.items).length : Int)) = False := by simp; omega
      rw [List.take_of_length_le (by omega)] at hP
      refine gw (an hq l_e1) ?_
      simp +decide only[go_sem,reduceAdd,reduceMul,reduceSub,hq,l_e1]
      exact .yes (hend rfl hP)
theorem flt_n : ∀ (N : Nat) (e : Pl), SizeOf.sizeOf (encPl e) < N → ∃ b, callP (XG G) TT 32 [encPl e] = some (.bool b) ∧ (b = true → FltP (encPl e))
  | 0, e, h => absurd h (Nat.not_lt_zero _)
  | N + 1, e, h => by
    obtain ⟨r, he, hs⟩ := e.open
    rw [he]
    exact flt_step r fun x hx => flt_n N x (by have := hs x hx; omega)
/-- Is an expression absent? -/
theorem absent52 (r : ExR) : ∃ b, callP (XG G) TT 52 [r.enc, zeroE] = some (.bool b) := by
  suffices h : ∃ v, callP (XG G) TT 52 [r.enc, zeroE] = some v ∧ BoolP True v by
    obtain ⟨v, h1, h2⟩ := h
    cases h2 with
    | no => exact ⟨_, h1⟩
    | yes _ => exact ⟨_, h1⟩
  unfold zeroE
  refine callP_body T52 rfl (by simp only [go_sem, strip_ExR]) ?_
  unfold Tryd.f52
  simp only [Option.getD_some]
  simp +decide only[go_sem,reduceAdd,reduceMul,reduceSub]
  cases c0 : (r.a.1 != 0)
  · cases c1 : (r.s == [])
    · refine gw (an c0 c1) ?_
      simp +decide only[go_sem,reduceAdd,reduceMul,reduceSub,c0,c1]
      exact .no
    · cases c2 : (r.t == [])
      · refine gw (an c0 (an c1 c2)) ?_
        simp +decide only[go_sem,reduceAdd,reduceMul,reduceSub,c0,c1,c2]
        exact .no
      · cases c3 : (r.b.1 != 0)
        · cases c4 : ((r.c.1 == 0 && (r.d.1 == 0 && r.u == [])))
          · refine gw (an c0 (an c1 (an c2 (an c3 c4)))) ?_
            simp +decide only[go_sem,reduceAdd,reduceMul,reduceSub,c0,c1,c2,c3,c4]
            exact .no
          · cases c5 : ((r.args.items.length : Int) != ((0 : Nat) : Int))
            · have h0 : r.args.items.length = 0 := by simp at c5; simp [c5]
              have l0 : ((0 : Int) < (r.args.items.length : Int)) = False := eq_false (by omega)
              refine gw (an c0 (an c1 (an c2 (an c3 (an c4 c5))))) ?_
              refine wpI_loopC (T := Unit) [2, 3, 5] rfl (by simp +decide only[go_sem,reduceAdd,reduceMul,reduceSub,c0,c1,c2,c3,c4,c5]; exact rfl) (fun _ => [(5, .int .i64 0)]) (fun _ => []) (fun _ => ⟨[], []⟩) (fun _ => True) (fun _ => 0) () (by simp +decide only[go_sem,reduceAdd,reduceMul,reduceSub,c0,c1,c2,c3,c4,c5] <;> rfl) (by simp) ?_
              rintro _ _
              refine gw (an c0 (an c1 (an c2 (an c3 (an c4 (an c5 l0)))))) ?_
              simp +decide only[go_sem,reduceAdd,reduceMul,reduceSub,c0,c1,c2,c3,c4,c5]
              exact .yes trivial
            · refine gw (an c0 (an c1 (an c2 (an c3 (an c4 c5))))) ?_
              simp +decide only[go_sem,reduceAdd,reduceMul,reduceSub,c0,c1,c2,c3,c4,c5]
              exact .no
        · refine gw (an c0 (an c1 (an c2 c3))) ?_
          simp +decide only[go_sem,reduceAdd,reduceMul,reduceSub,c0,c1,c2,c3]
          exact .no
  · refine gw c0 ?_
    simp +decide only[go_sem,reduceAdd,reduceMul,reduceSub,c0]
    exact .no
theorem absent110 (r : ExR) : ∃ b, callP (XG G) TT 110 [r.enc] = some (.bool b) := by
  obtain ⟨b, hb⟩ := absent52 (G := G) r
  simp only [ExR_eq, zeroE] at hb
  refine ⟨b, ?_⟩
  refine callP_val T110 rfl (by simp only [go_sem, strip_ExR]) ?_
  unfold Tryd.f110
  simp only [Option.getD_some]
  simp +decide only[go_sem,reduceAdd,reduceMul,reduceSub,hb]
  refine gw hb ?_
  simp +decide only[go_sem,reduceAdd,reduceMul,reduceSub,hb]
end
end Go.Eng
