/- A part of the proof: see the last text. -/
import Derived.Test.YtcfmjomniaopcaaDoorR2Pf
import Derived.Test.YtcfmjomniaopcaaDoorR2Awake
set_option linter.unusedSimpArgs false
set_option linter.unusedVariables false
/- What a conjunct gives for a variable: the reference and the program. -/
namespace Go.Eng
open Go Go.Proofs
open Nat (reduceAdd reduceMul reduceSub)
set_option maxRecDepth 20000
set_option maxHeartbeats 32000000
noncomputable def root (e : Ex) : ExR := e.open.choose
theorem root_eq (e : Ex) : encEx e = (root e).enc := e.open.choose_spec.1
def colR (r : ExR) (v : Int) : Bool := r.a.1 == 2 && r.b.1 == v
noncomputable def gvA (f : Ex → Bool) (v op : Int) : List Ex → Option Ex
  | [x, y] => bif op == 10 && (colR (root x) v && f y) then some y else bif op == 10 && (colR (root y) v && f x) then some x else none
  | _ => none
noncomputable def gvF (f : Ex → Bool) (v : Int) (e : Ex) : Option Ex := gvA f v (root e).a.1 (root e).args.items
theorem gvA_ne {f : Ex → Bool} {v op : Int} : ∀ {l : List Ex}, l.length ≠ 2 → gvA f v op l = none
  | [], _ => rfl
  | [_], _ => rfl
  | [_, _], h => absurd rfl h
  | _ :: _ :: _ :: _, _ => rfl
def zeroE : D := .agg [.int .i64 0, .str [], .str [], .int .i64 0, .int .i64 0, .int .i64 0, .str [], .nil]
def gvT : Option Ex → D
  | some x => .tuple [encEx x, .bool true]
  | none => .tuple [zeroE, .bool false]
def opE : D := .slice none 1 [.int .i64 10]
section
variable {G : Nat → Option (List D)}
theorem opsL_eq : opsL = [.slice none 1 [.int .i64 10], .slice none 1 [.int .i64 10], .slice none 1 [.int .i64 15, .int .i64 14], .slice none 1 [.int .i64 13, .int .i64 12], .slice none 1 [.int .i64 13, .int .i64 12], .slice none 1 [.int .i64 15, .int .i64 14]] := rfl
theorem opHas (op : Int) : callP (XG G) TT 112 [.slice none 1 [.int .i64 10], .int .i64 op] = some (.bool (op == 10)) := by
  refine (has112 (G := G) ⟨some [⟨10, by decide⟩], by show (1 : Nat) < 4611686018427387904; decide⟩ op).trans ?_
  show some (D.bool (((10 : Int) == op) || false)) = _
  rw [Bool.or_false, Bool.beq_comm]
theorem opCt (op : Int) : callP (XG G) TT 135 [.slice none 1 [.int .i64 10], .int .i64 op] = some (.bool (op == 10)) := by
  refine (ct135 (G := G) ⟨some [⟨10, by decide⟩], by show (1 : Nat) < 4611686018427387904; decide⟩ op).trans ?_
  show some (D.bool ((op == (10 : Int)) || false)) = _
  rw [Bool.or_false]
theorem col143 (r : ExR) (v : Int) : callP (XG G) TT 143 [r.enc, .int .i64 v] = some (.bool (colR r v)) := by
  refine callP_val T143 rfl (by simp only [go_sem, strip_ExR]) ?_
  unfold Tryd.f143
  simp only [Option.getD_some]
  unfold colR
  simp +decide only[go_sem,reduceAdd,reduceMul,reduceSub]
  cases c : (r.a.1 == 2)
  · refine gw c ?_
    simp +decide only[go_sem,reduceAdd,reduceMul,reduceSub,c]
    rfl
  · refine gw c ?_
    simp +decide only[go_sem,reduceAdd,reduceMul,reduceSub,c]
theorem col143E (e : Ex) (v : Int) : callP (XG G) TT 143 [encEx e, .int .i64 v] = some (.bool (colR (root e) v)) := by
  rw [root_eq e]; exact col143 _ v
theorem given93 (s : Sl Tbl) (b : Bnd) (known : Sl I64) (f : Ex → Bool) (hf : ∀ e, callP (XG G) TT 144 [sl 5 encTbl s, encBnd b, encEx e, sl 1 I known] = some (.bool (f e))) (v : Int) (e : Ex) :
    callP (XG G) TT 93 [sl 5 encTbl s, encBnd b, encEx e, .int .i64 v, sl 1 I known, opE, opE] = some (gvT (gvF f v e)) := by
  unfold gvF
  rw [root_eq e]
  generalize root e = r
  refine callP_val T93 rfl (by simp only [go_sem, strip_ExR, opE]) ?_
  unfold Tryd.f93
  simp only [Option.getD_some]
  by_cases h2 : r.args.items.length = 2
  · obtain ⟨x, y, hxy⟩ := two_of h2
    have n2 : ((r.args.items.length : Int) != 2) = false := by simp [h2]
    have a0 : atI r.args.items 0 = some x := by rw [hxy]; rfl
    have a1 : atI r.args.items 1 = some y := by rw [hxy]; rfl
    have e1 := opHas (G := G) r.a.1
    have e2 := col143E (G := G) x v
    have e3 := col143E (G := G) y v
    have e4 := hf x
    have e5 := hf y
    simp only [encBnd_eq] at e4 e5
    have hx := root_eq x
    have hy := root_eq y
    simp only [ExR_eq] at hx hy
    rw [hxy, gvA]
    unfold opE
    simp +decide only[go_sem,reduceAdd,reduceMul,reduceSub,n2,a0,a1,e1,e2,e3,e4,e5]
    cases c0 : (r.a.1 == 10)
    · refine gw (an n2 (an a0 (an a1 (an e1 (an e2 (an e3 (an e4 (an e5 c0)))))))) ?_
      simp +decide only[go_sem,reduceAdd,reduceMul,reduceSub,n2,a0,a1,e1,e2,e3,e4,e5,c0]
      rfl
    · cases c1 : (colR (root x) v)
      · cases c3 : (colR (root y) v)
        · refine gw (an n2 (an a0 (an a1 (an e1 (an e2 (an e3 (an e4 (an e5 (an c0 (an c1 c3)))))))))) ?_
          simp +decide only[go_sem,reduceAdd,reduceMul,reduceSub,n2,a0,a1,e1,e2,e3,e4,e5,c0,c1,c3]
          rfl
        · cases c4 : (f x)
          · refine gw (an n2 (an a0 (an a1 (an e1 (an e2 (an e3 (an e4 (an e5 (an c0 (an c1 (an c3 c4))))))))))) ?_
            simp +decide only[go_sem,reduceAdd,reduceMul,reduceSub,n2,a0,a1,e1,e2,e3,e4,e5,c0,c1,c3,c4]
            rfl
          · refine gw (an n2 (an a0 (an a1 (an e1 (an e2 (an e3 (an e4 (an e5 (an c0 (an c1 (an c3 c4))))))))))) ?_
            refine gw (an n2 (an a0 (an a1 (an e1 (an e2 (an e3 (an e4 (an e5 (an c0 (an c1 (an c3 (an c4 hx)))))))))))) ?_
            simp +decide only[go_sem,reduceAdd,reduceMul,reduceSub,n2,a0,a1,e1,e2,e3,e4,e5,c0,c1,c3,c4]
            simp only [Bool.true_and, Bool.false_and, Bool.and_self, cond_true, cond_false, gvT, hx]
      · cases c2 : (f y)
        · cases c3 : (colR (root y) v)
          · refine gw (an n2 (an a0 (an a1 (an e1 (an e2 (an e3 (an e4 (an e5 (an c0 (an c1 (an c2 c3))))))))))) ?_
            simp +decide only[go_sem,reduceAdd,reduceMul,reduceSub,n2,a0,a1,e1,e2,e3,e4,e5,c0,c1,c2,c3]
            rfl
          · cases c4 : (f x)
            · refine gw (an n2 (an a0 (an a1 (an e1 (an e2 (an e3 (an e4 (an e5 (an c0 (an c1 (an c2 (an c3 c4)))))))))))) ?_
              simp +decide only[go_sem,reduceAdd,reduceMul,reduceSub,n2,a0,a1,e1,e2,e3,e4,e5,c0,c1,c2,c3,c4]
              rfl
            · refine gw (an n2 (an a0 (an a1 (an e1 (an e2 (an e3 (an e4 (an e5 (an c0 (an c1 (an c2 (an c3 c4)))))))))))) ?_
              refine gw (an n2 (an a0 (an a1 (an e1 (an e2 (an e3 (an e4 (an e5 (an c0 (an c1 (an c2 (an c3 (an c4 hx))))))))))))) ?_
              simp +decide only[go_sem,reduceAdd,reduceMul,reduceSub,n2,a0,a1,e1,e2,e3,e4,e5,c0,c1,c2,c3,c4]
              simp only [Bool.true_and, Bool.false_and, Bool.and_self, Bool.and_false, cond_true, cond_false, gvT, hx]
        · refine gw (an n2 (an a0 (an a1 (an e1 (an e2 (an e3 (an e4 (an e5 (an c0 (an c1 c2)))))))))) ?_
          refine gw (an n2 (an a0 (an a1 (an e1 (an e2 (an e3 (an e4 (an e5 (an c0 (an c1 (an c2 hy))))))))))) ?_
          simp +decide only[go_sem,reduceAdd,reduceMul,reduceSub,n2,a0,a1,e1,e2,e3,e4,e5,c0,c1,c2]
          simp only [Bool.true_and, Bool.false_and, Bool.and_self, Bool.and_false, cond_true, cond_false, gvT, hy]
  · have n2 : ((r.args.items.length : Int) != 2) = true := by simp; omega
    rw [gvA_ne h2]
    unfold opE
    simp +decide only[go_sem,reduceAdd,reduceMul,reduceSub]
    refine gw n2 ?_
    simp +decide only[go_sem,reduceAdd,reduceMul,reduceSub]
    rfl
theorem search50 (s : Sl Tbl) (b : Bnd) (known : Sl I64) (f : Ex → Bool) (hf : ∀ e, callP (XG G) TT 144 [sl 5 encTbl s, encBnd b, encEx e, sl 1 I known] = some (.bool (f e))) (v : Int) (c : Sl Ex) (hc : callP (XG G) TT 46 [b.w.enc] = some (sl 8 encEx c)) :
    callP (XG G) TT 50 [sl 5 encTbl s, encBnd b, .int .i64 v, sl 1 I known, opE, opE] = some (gvT (c.items.findSome? (gvF f v))) := by
  refine callP_val T50 rfl (by simp only [go_sem, opE]) ?_
  unfold Tryd.f50
  simp only [Option.getD_some]
  have hlt := c.lt
  simp only [ExR_eq] at hc
  simp +decide only[go_sem,reduceAdd,reduceMul,reduceSub,hc]
  refine gw hc ?_
  refine wpI_loopC (T := Nat) [0, 2, 3, 4, 5, 7, 12, 14, 15] rfl (by simp +decide only[go_sem,reduceAdd,reduceMul,reduceSub,hc]; exact rfl) (fun k => [(15, .int .i64 (k : Int))]) (fun _ => []) (fun _ => ⟨[], []⟩) (fun k => k ≤ c.items.length ∧ (c.items.take k).findSome? (gvF f v) = none) (fun k => c.items.length - k) 0 (by simp +decide only[go_sem,reduceAdd,reduceMul,reduceSub,hc] <;> rfl) (by exact ⟨Nat.zero_le _, rfl⟩) ?_
  rintro k ⟨hk, hQ⟩
  by_cases h1 : k < c.items.length
  · have l_x : ((k : Int) < ((c.items).length : Int)) = True := by simp; omega
    obtain ⟨x, g_x⟩ : ∃ a_, (c.items)[k]? = some a_ := ⟨_, List.getElem?_eq_getElem (by assumption)⟩
    have w_x := wrap_nat k (by omega)
    have c1 := given93 s b known f hf v x
    simp only [encBnd_eq] at c1
    unfold opE at c1
    have hs : (c.items.take (k + 1)).findSome? (gvF f v) = gvF f v x := by
      rw [List.take_add_one, g_x, List.findSome?_append, hQ]; simp
    unfold opE
    cases hg : gvF f v x with
    | none =>
      rw [hg] at c1 hs
      simp only [gvT, zeroE] at c1
      refine gw (an hc (an l_x (an g_x (an w_x c1)))) ?_
      exact ⟨k + 1, by simp +decide only[go_sem,reduceAdd,reduceMul,reduceSub,hc,l_x,g_x,w_x] <;> rfl, ⟨by omega, hs⟩, by omega⟩
    | some y =>
      rw [hg] at c1
      have hy := root_eq y
      simp only [ExR_eq] at hy
      simp only [gvT, hy] at c1
      refine gw (an hc (an l_x (an g_x (an w_x c1)))) ?_
      simp +decide only[go_sem,reduceAdd,reduceMul,reduceSub,hc,l_x,g_x,w_x]
      have : c.items.findSome? (gvF f v) = some y := by
        rw [← List.take_append_drop k c.items, List.findSome?_append, hQ, dropc g_x, List.findSome?_cons, hg]; rfl
      rw [this, gvT, hy]
  · have l_e1 : ((k : Int) < ((c.items).length : Int)) = False := by simp; omega
    rw [List.take_of_length_le (by omega)] at hQ
    refine gw (an hc l_e1) ?_
    simp +decide only[go_sem,reduceAdd,reduceMul,reduceSub,hc,l_e1]
    rw [hQ]; rfl
theorem is141 (m : Mem) (j : Nat) (v : Int) (hm : m.boxes[j]? = some [.int .i64 v]) (r : ExR) : callR (XG G) TT 141 m [r.enc, .ptr j 0] = some (.bool (colR r v), m) := by
  refine callR_val T141 rfl ?_
  unfold Tryd.f141
  simp only [Option.getD_some]
  unfold colR
  simp +decide only[go_sem,reduceAdd,reduceMul,reduceSub,hm]
  cases c : (r.a.1 == 2)
  · refine gw (an hm c) ?_
    simp +decide only[go_sem,reduceAdd,reduceMul,reduceSub,hm,c]
    simp
  · refine gw (an hm c) ?_
    simp +decide only[go_sem,reduceAdd,reduceMul,reduceSub,hm,c]
end
theorem first91 (s : Sl Tbl) (b : Bnd) (W : List Nat) (known : Sl I64) (f : Ex → Bool) (m : Mem) (id : Nat) (tg : Option Nat) (c : Sl Ex) (hm : m.boxes[id]? = some (qC s b tg W c))
    (hf : ∀ (e : Ex) (m : Mem), m.boxes[id]? = some (qC s b tg W c) → callR (XG GK) TT 142 m [.ptr id 0, encEx e, sl 1 I known] = some (.bool (f e), m)) (v : Int) :
    callR (XG GK) TT 91 m [.ptr id 0, .int .i64 v, .int .i64 0, sl 1 I known] = some (gvT (c.items.findSome? (gvF f v)), ⟨m.boxes ++ [[.int .i64 v]], m.toks⟩) := by
  obtain ⟨bx, tk⟩ := m
  refine callR_val T91 rfl ?_
  unfold Tryd.f91
  simp only [Option.getD_some]
  have hlt := c.lt
  have hm0 : bx[id]? = some (qC s b tg W c) := hm
  have hm' : (bx ++ [[D.int .i64 v]])[id]? = some (qC s b tg W c) := by rw [List.getElem?_append_left (List.getElem?_eq_some_iff.1 hm0).1]; exact hm0
  have hj : (bx ++ [[D.int .i64 v]])[bx.length]? = some [D.int .i64 v] := by simp
  have hf' := fun e => hf e ⟨bx ++ [[.int .i64 v]], tk⟩ hm'
  have hi := fun e => is141 (G := GK) ⟨bx ++ [[.int .i64 v]], tk⟩ bx.length v hj (root e)
  simp only [qC] at hm'
  have hops := opsL_eq
  have ta := true_and
  have t0 : Int.toNat 0 = 0 := rfl
  have t1 : Int.toNat 1 = 1 := rfl
  simp +decide only[go_sem,reduceAdd,reduceMul,reduceSub,hm',hops,t0,t1,ta]
  refine gw (an hm' (an hops (an t0 (an t1 ta)))) ?_
  refine wpI_loopC (T := Nat) [0, 2, 3, 8, 10, 19, 20, 21] rfl (by simp +decide only[go_sem,reduceAdd,reduceMul,reduceSub,hm',hops,t0,t1,ta]; exact rfl) (fun k => [(21, .int .i64 (k : Int))]) (fun _ => []) (fun _ => ⟨bx ++ [[.int .i64 v]], tk⟩) (fun k => k ≤ c.items.length ∧ (c.items.take k).findSome? (gvF f v) = none) (fun k => c.items.length - k) 0 (by simp +decide only[go_sem,reduceAdd,reduceMul,reduceSub,hm',hops,t0,t1,ta] <;> rfl) (by exact ⟨Nat.zero_le _, rfl⟩) ?_
  rintro k ⟨hk, hQ⟩
  by_cases h1 : k < c.items.length
  · have l_x : ((k : Int) < ((c.items).length : Int)) = True := by simp; omega
    obtain ⟨x, g_x⟩ : ∃ a_, (c.items)[k]? = some a_ := ⟨_, List.getElem?_eq_getElem (by assumption)⟩
    have w_x := wrap_nat k (by omega)
    have hs : (c.items.take (k + 1)).findSome? (gvF f v) = gvF f v x := by
      rw [List.take_add_one, g_x, List.findSome?_append, hQ]; simp
    have hyes : ∀ y, gvF f v x = some y → c.items.findSome? (gvF f v) = some y := fun y hg => by
      rw [← List.take_append_drop k c.items, List.findSome?_append, hQ, dropc g_x, List.findSome?_cons, hg]; rfl
    have hgv : gvF f v x = gvA f v (root x).a.1 (root x).args.items := rfl
    rw [hgv] at hs
    simp only [hgv] at hyes
    clear hgv
    have he := root_eq x
    simp only [ExR_eq] at he
    generalize root x = r at *
    by_cases h2 : r.args.items.length = 2
    · obtain ⟨y, z, hyz⟩ := two_of h2
      have n2 : ((r.args.items.length : Int) != 2) = false := by simp [h2]
      have a0 : atI r.args.items 0 = some y := by rw [hyz]; rfl
      have a1 : atI r.args.items 1 = some z := by rw [hyz]; rfl
      have e1 := opCt (G := GK) r.a.1
      have e2 := hi y
      have e3 := hi z
      have e4 := hf' y
      have e5 := hf' z
      have hy := root_eq y
      have hz := root_eq z
      rw [hy] at e4
      rw [hz] at e5
      rw [hyz, gvA] at hs hyes
      simp only [ExR_eq] at e2 e3 e4 e5 hy hz
      cases c0 : (r.a.1 == 10)
      · refine gw (an hm' (an hops (an t0 (an t1 (an ta (an l_x (an g_x (an w_x (an he (an n2 (an a0 (an a1 (an e1 (an e2 (an e3 (an e4 (an e5 (an hy (an hz c0))))))))))))))))))) ?_
        exact ⟨k + 1, by simp +decide only[go_sem,reduceAdd,reduceMul,reduceSub,hm',hops,t0,t1,ta,l_x,g_x,w_x,he,n2,a0,a1,e1,e2,e3,e4,e5,hy,hz,c0] <;> rfl, ⟨by omega, by rw [hs, c0]; rfl⟩, by omega⟩
      · cases c1 : (colR (root y) v)
        · cases c3 : (colR (root z) v)
          · refine gw (an hm' (an hops (an t0 (an t1 (an ta (an l_x (an g_x (an w_x (an he (an n2 (an a0 (an a1 (an e1 (an e2 (an e3 (an e4 (an e5 (an hy (an hz (an c0 (an c1 c3))))))))))))))))))))) ?_
            exact ⟨k + 1, by simp +decide only[go_sem,reduceAdd,reduceMul,reduceSub,hm',hops,t0,t1,ta,l_x,g_x,w_x,he,n2,a0,a1,e1,e2,e3,e4,e5,hy,hz,c0,c1,c3] <;> rfl, ⟨by omega, by rw [hs, c0, c1, c3]; rfl⟩, by omega⟩
          · cases c4 : (f y)
            · refine gw (an hm' (an hops (an t0 (an t1 (an ta (an l_x (an g_x (an w_x (an he (an n2 (an a0 (an a1 (an e1 (an e2 (an e3 (an e4 (an e5 (an hy (an hz (an c0 (an c1 (an c3 c4)))))))))))))))))))))) ?_
              exact ⟨k + 1, by simp +decide only[go_sem,reduceAdd,reduceMul,reduceSub,hm',hops,t0,t1,ta,l_x,g_x,w_x,he,n2,a0,a1,e1,e2,e3,e4,e5,hy,hz,c0,c1,c3,c4] <;> rfl, ⟨by omega, by rw [hs, c0, c1, c3, c4]; rfl⟩, by omega⟩
            · refine gw (an hm' (an hops (an t0 (an t1 (an ta (an l_x (an g_x (an w_x (an he (an n2 (an a0 (an a1 (an e1 (an e2 (an e3 (an e4 (an e5 (an hy (an hz (an c0 (an c1 (an c3 c4)))))))))))))))))))))) ?_
              simp +decide only[go_sem,reduceAdd,reduceMul,reduceSub,hm',hops,t0,t1,ta,l_x,g_x,w_x,he,n2,a0,a1,e1,e2,e3,e4,e5,hy,hz,c0,c1,c3,c4]
              rw [hyes y (by rw [c0, c1, c3, c4]; rfl)]
              simp only [gvT, hy]
              simp
        · cases c2 : (f z)
          · cases c3 : (colR (root z) v)
            · refine gw (an hm' (an hops (an t0 (an t1 (an ta (an l_x (an g_x (an w_x (an he (an n2 (an a0 (an a1 (an e1 (an e2 (an e3 (an e4 (an e5 (an hy (an hz (an c0 (an c1 (an c2 c3)))))))))))))))))))))) ?_
              exact ⟨k + 1, by simp +decide only[go_sem,reduceAdd,reduceMul,reduceSub,hm',hops,t0,t1,ta,l_x,g_x,w_x,he,n2,a0,a1,e1,e2,e3,e4,e5,hy,hz,c0,c1,c2,c3] <;> rfl, ⟨by omega, by rw [hs, c0, c1, c2, c3]; rfl⟩, by omega⟩
            · cases c4 : (f y)
              · refine gw (an hm' (an hops (an t0 (an t1 (an ta (an l_x (an g_x (an w_x (an he (an n2 (an a0 (an a1 (an e1 (an e2 (an e3 (an e4 (an e5 (an hy (an hz (an c0 (an c1 (an c2 (an c3 c4))))))))))))))))))))))) ?_
                exact ⟨k + 1, by simp +decide only[go_sem,reduceAdd,reduceMul,reduceSub,hm',hops,t0,t1,ta,l_x,g_x,w_x,he,n2,a0,a1,e1,e2,e3,e4,e5,hy,hz,c0,c1,c2,c3,c4] <;> rfl, ⟨by omega, by rw [hs, c0, c1, c2, c3, c4]; rfl⟩, by omega⟩
              · refine gw (an hm' (an hops (an t0 (an t1 (an ta (an l_x (an g_x (an w_x (an he (an n2 (an a0 (an a1 (an e1 (an e2 (an e3 (an e4 (an e5 (an hy (an hz (an c0 (an c1 (an c2 (an c3 c4))))))))))))))))))))))) ?_
                simp +decide only[go_sem,reduceAdd,reduceMul,reduceSub,hm',hops,t0,t1,ta,l_x,g_x,w_x,he,n2,a0,a1,e1,e2,e3,e4,e5,hy,hz,c0,c1,c2,c3,c4]
                rw [hyes y (by rw [c0, c1, c2, c3, c4]; rfl)]
                simp only [gvT, hy]
                simp
          · refine gw (an hm' (an hops (an t0 (an t1 (an ta (an l_x (an g_x (an w_x (an he (an n2 (an a0 (an a1 (an e1 (an e2 (an e3 (an e4 (an e5 (an hy (an hz (an c0 (an c1 c2))))))))))))))))))))) ?_
            simp +decide only[go_sem,reduceAdd,reduceMul,reduceSub,hm',hops,t0,t1,ta,l_x,g_x,w_x,he,n2,a0,a1,e1,e2,e3,e4,e5,hy,hz,c0,c1,c2]
            rw [hyes z (by rw [c0, c1, c2]; rfl)]
            simp only [gvT, hz]
            simp
    · have n2 : ((r.args.items.length : Int) != 2) = true := by simp; omega
      rw [gvA_ne h2] at hs
      refine gw (an hm' (an hops (an t0 (an t1 (an ta (an l_x (an g_x (an w_x (an he n2))))))))) ?_
      exact ⟨k + 1, by simp +decide only[go_sem,reduceAdd,reduceMul,reduceSub,hm',hops,t0,t1,ta,l_x,g_x,w_x,he] <;> rfl, ⟨by omega, hs⟩, by omega⟩
  · have l_e1 : ((k : Int) < ((c.items).length : Int)) = False := by simp; omega
    rw [List.take_of_length_le (by omega)] at hQ
    refine gw (an hm' (an hops (an t0 (an t1 (an ta l_e1))))) ?_
    simp +decide only[go_sem,reduceAdd,reduceMul,reduceSub,hm',hops,t0,t1,ta,l_e1]
    rw [hQ]
    first | exact ⟨rfl, trivial⟩ | simp [gvT, zeroE]
end Go.Eng
