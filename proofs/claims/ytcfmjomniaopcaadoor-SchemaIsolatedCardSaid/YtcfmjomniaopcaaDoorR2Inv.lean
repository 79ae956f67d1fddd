/- A part of the proof: see the last text. -/
import Derived.Test.YtcfmjomniaopcaaDoorR2Eqs
import Derived.Test.YtcfmjomniaopcaaDoorKR2SmallT
set_option linter.unusedSimpArgs false
set_option linter.unusedVariables false
/- The form of a definition: the program's shape and the reference's invalid. -/
namespace Go.Eng
open Go Go.Proofs
open Nat (reduceAdd reduceMul reduceSub)
set_option maxRecDepth 20000
set_option maxHeartbeats 32000000
attribute [local irreducible] wpI endP
theorem all_take {α : Type} {p : α → Bool} {l : List α} {k : Nat} {x : α} (h : (l.take k).all p = true) (g : l[k]? = some x) (hx : p x = true) : (l.take (k + 1)).all p = true := by
  rw [List.take_add_one, g, List.all_append, h]; simp [hx]
theorem all_bad {α : Type} {p : α → Bool} {l : List α} {k : Nat} {x : α} (g : l[k]? = some x) (hx : p x = false) : l.all p = false := by
  cases h : l.all p
  · rfl
  · rw [List.all_eq_true.1 h x (List.mem_of_getElem? g)] at hx; cases hx
def neB (k : Sl Str) : Bool := !((k.items.length : Int) == 0)
def fgB (f : FgS) : Bool := !((f.cols.items.length : Int) == 0) && ((f.cols.items.length : Int) == (f.refs.items.length : Int))
def okB (x : Stm) : Bool := nameB x.name && (!((x.cols.items.length : Int) == 0) && (x.cols.items.all colB && (x.keys.items.all neB && x.fgns.items.all fgB)))
theorem inv57 (x : Stm) (hx : SmallS x) : callP (XG GK) TT 57 [encStm x] = some (.bool (!okB x)) := by
  obtain ⟨x1, x2, x3, x4, x5, x6, x7, x8, x9⟩ := hx
  refine callP_val T57 rfl (by simp only [go_sem]) ?_
  unfold Tryd.f57
  simp only [Option.getD_some]
  have c1 := name104 x.name (by omega)
  simp +decide only[go_sem,reduceAdd,reduceMul,reduceSub,c1]
  refine gw c1 ?_
  cases n : (nameB x.name)
  · refine gw (an c1 n) ?_
    simp +decide only[go_sem,reduceAdd,reduceMul,reduceSub,c1,n]
    simp only [c1, n, okB, cond_true, cond_false, Bool.true_and, Bool.false_and, Bool.and_true, Bool.and_false, Bool.true_or, Bool.false_or, Bool.or_true, Bool.or_false, Bool.not_true, Bool.not_false, Bool.or_self, Bool.and_self, Bool.not_not]
  cases n2 : ((x.cols.items.length : Int) == 0)
  · refine gw (an c1 (an n n2)) ?_
    refine wpI_loopC (T := Nat) [3, 4] rfl (by simp +decide only[go_sem,reduceAdd,reduceMul,reduceSub,c1,n,n2]; exact rfl) (fun k => [(4, .int .i64 (k : Int))]) (fun _ => []) (fun _ => ⟨[], []⟩) (fun k => k ≤ x.cols.items.length ∧ (x.cols.items.take k).all colB = true) (fun k => x.cols.items.length - k) 0 (by simp +decide only[go_sem,reduceAdd,reduceMul,reduceSub,c1,n,n2] <;> rfl) (by simp) ?_
    rintro k1 ⟨hk1, hP1⟩
    by_cases h1 : k1 < x.cols.items.length
    · have l_y : ((k1 : Int) < ((x.cols.items).length : Int)) = True := by simp; omega
      obtain ⟨y, g_y⟩ : ∃ a_, (x.cols.items)[k1]? = some a_ := ⟨_, List.getElem?_eq_getElem (by assumption)⟩
      have w_y := wrap_nat k1 (by omega)
      have hc := col105 y (by have := x6 y (List.mem_of_getElem? g_y); omega)
      simp only [encCol_eq] at hc
      cases o : (colB y)
      · refine gw (an c1 (an n (an n2 (an l_y (an g_y (an w_y (an hc o))))))) ?_
        simp +decide only[go_sem,reduceAdd,reduceMul,reduceSub,c1,n,n2,l_y,g_y,w_y,hc,o]
        have := all_bad g_y o
        simp only [c1, n, n2, l_y, g_y, w_y, hc, o, okB, this, cond_true, cond_false, Bool.true_and, Bool.false_and, Bool.and_true, Bool.and_false, Bool.true_or, Bool.false_or, Bool.or_true, Bool.or_false, Bool.not_true, Bool.not_false, Bool.or_self, Bool.and_self, Bool.not_not]
      · refine gw (an c1 (an n (an n2 (an l_y (an g_y (an w_y (an hc o))))))) ?_
        exact ⟨k1 + 1, by simp +decide only[go_sem,reduceAdd,reduceMul,reduceSub,c1,n,n2,l_y,g_y,w_y,hc,o] <;> rfl, ⟨by omega, all_take hP1 g_y o⟩, by omega⟩
    have l_e1 : ((k1 : Int) < ((x.cols.items).length : Int)) = False := by simp; omega
    rw [List.take_of_length_le (by omega)] at hP1
    refine gw (an c1 (an n (an n2 l_e1))) ?_
    refine wpI_loopC (T := Nat) [3, 5] rfl (by simp +decide only[go_sem,reduceAdd,reduceMul,reduceSub,c1,n,n2,l_e1]; exact rfl) (fun k => [(5, .int .i64 (k : Int))]) (fun _ => []) (fun _ => ⟨[], []⟩) (fun k => k ≤ x.keys.items.length ∧ (x.keys.items.take k).all neB = true) (fun k => x.keys.items.length - k) 0 (by simp +decide only[go_sem,reduceAdd,reduceMul,reduceSub,c1,n,n2,l_e1] <;> rfl) (by simp) ?_
    rintro k2 ⟨hk2, hP2⟩
    by_cases h2 : k2 < x.keys.items.length
    · have l_y : ((k2 : Int) < ((x.keys.items).length : Int)) = True := by simp; omega
      obtain ⟨y, g_y⟩ : ∃ a_, (x.keys.items)[k2]? = some a_ := ⟨_, List.getElem?_eq_getElem (by assumption)⟩
      have w_y := wrap_nat k2 (by omega)
      cases o : ((y.items.length : Int) == 0)
      · refine gw (an c1 (an n (an n2 (an l_e1 (an l_y (an g_y (an w_y o))))))) ?_
        exact ⟨k2 + 1, by simp +decide only[go_sem,reduceAdd,reduceMul,reduceSub,c1,n,n2,l_e1,l_y,g_y,w_y,o] <;> rfl, ⟨by omega, all_take hP2 g_y (by rw [neB, o]; rfl)⟩, by omega⟩
      · refine gw (an c1 (an n (an n2 (an l_e1 (an l_y (an g_y (an w_y o))))))) ?_
        simp +decide only[go_sem,reduceAdd,reduceMul,reduceSub,c1,n,n2,l_e1,l_y,g_y,w_y,o]
        have := all_bad (p := neB) g_y (by rw [neB, o]; rfl)
        simp only [c1, n, n2, l_e1, l_y, g_y, w_y, o, okB, this, cond_true, cond_false, Bool.true_and, Bool.false_and, Bool.and_true, Bool.and_false, Bool.true_or, Bool.false_or, Bool.or_true, Bool.or_false, Bool.not_true, Bool.not_false, Bool.or_self, Bool.and_self, Bool.not_not]
    have l_e2 : ((k2 : Int) < ((x.keys.items).length : Int)) = False := by simp; omega
    rw [List.take_of_length_le (by omega)] at hP2
    refine gw (an c1 (an n (an n2 (an l_e1 l_e2)))) ?_
    refine wpI_loopC (T := Nat) [3, 6] rfl (by simp +decide only[go_sem,reduceAdd,reduceMul,reduceSub,c1,n,n2,l_e1,l_e2]; exact rfl) (fun k => [(6, .int .i64 (k : Int))]) (fun _ => []) (fun _ => ⟨[], []⟩) (fun k => k ≤ x.fgns.items.length ∧ (x.fgns.items.take k).all fgB = true) (fun k => x.fgns.items.length - k) 0 (by simp +decide only[go_sem,reduceAdd,reduceMul,reduceSub,c1,n,n2,l_e1,l_e2] <;> rfl) (by simp) ?_
    rintro k3 ⟨hk3, hP3⟩
    by_cases h3 : k3 < x.fgns.items.length
    · have l_y : ((k3 : Int) < ((x.fgns.items).length : Int)) = True := by simp; omega
      obtain ⟨y, g_y⟩ : ∃ a_, (x.fgns.items)[k3]? = some a_ := ⟨_, List.getElem?_eq_getElem (by assumption)⟩
      have w_y := wrap_nat k3 (by omega)
      cases o : ((y.cols.items.length : Int) == 0)
      · cases o2 : ((y.cols.items.length : Int) == (y.refs.items.length : Int))
        · have o3 : ((y.cols.items.length : Int) != (y.refs.items.length : Int)) = true := by rw [bne, o2]; rfl
          refine gw (an c1 (an n (an n2 (an l_e1 (an l_e2 (an l_y (an g_y (an w_y (an o (an o2 o3)))))))))) ?_
          simp +decide only[go_sem,reduceAdd,reduceMul,reduceSub,c1,n,n2,l_e1,l_e2,l_y,g_y,w_y,o,o2]
          have := all_bad (p := fgB) g_y (by rw [fgB, o, o2]; rfl)
          simp only [c1, n, n2, l_e1, l_e2, l_y, g_y, w_y, o, o2, okB, this, cond_true, cond_false, Bool.true_and, Bool.false_and, Bool.and_true, Bool.and_false, Bool.true_or, Bool.false_or, Bool.or_true, Bool.or_false, Bool.not_true, Bool.not_false, Bool.or_self, Bool.and_self, Bool.not_not]
        · have o3 : ((y.cols.items.length : Int) != (y.refs.items.length : Int)) = false := by rw [bne, o2]; rfl
          refine gw (an c1 (an n (an n2 (an l_e1 (an l_e2 (an l_y (an g_y (an w_y (an o (an o2 o3)))))))))) ?_
          exact ⟨k3 + 1, by simp +decide only[go_sem,reduceAdd,reduceMul,reduceSub,c1,n,n2,l_e1,l_e2,l_y,g_y,w_y,o,o2] <;> rfl, ⟨by omega, all_take hP3 g_y (by rw [fgB, o, o2]; rfl)⟩, by omega⟩
      · refine gw (an c1 (an n (an n2 (an l_e1 (an l_e2 (an l_y (an g_y (an w_y o)))))))) ?_
        simp +decide only[go_sem,reduceAdd,reduceMul,reduceSub,c1,n,n2,l_e1,l_e2,l_y,g_y,w_y,o]
        have := all_bad (p := fgB) g_y (by rw [fgB, o]; rfl)
        simp only [c1, n, n2, l_e1, l_e2, l_y, g_y, w_y, o, okB, this, cond_true, cond_false, Bool.true_and, Bool.false_and, Bool.and_true, Bool.and_false, Bool.true_or, Bool.false_or, Bool.or_true, Bool.or_false, Bool.not_true, Bool.not_false, Bool.or_self, Bool.and_self, Bool.not_not]
    have l_e3 : ((k3 : Int) < ((x.fgns.items).length : Int)) = False := by simp; omega
    rw [List.take_of_length_le (by omega)] at hP3
    refine gw (an c1 (an n (an n2 (an l_e1 (an l_e2 l_e3))))) ?_
    simp +decide only[go_sem,reduceAdd,reduceMul,reduceSub,c1,n,n2,l_e1,l_e2,l_e3]
    simp only [c1, n, n2, l_e1, l_e2, l_e3, okB, hP1, hP2, hP3, cond_true, cond_false, Bool.true_and, Bool.false_and, Bool.and_true, Bool.and_false, Bool.true_or, Bool.false_or, Bool.or_true, Bool.or_false, Bool.not_true, Bool.not_false, Bool.or_self, Bool.and_self, Bool.not_not]
  · refine gw (an c1 (an n n2)) ?_
    simp +decide only[go_sem,reduceAdd,reduceMul,reduceSub,c1,n,n2]
    simp only [c1, n, n2, okB, cond_true, cond_false, Bool.true_and, Bool.false_and, Bool.and_true, Bool.and_false, Bool.true_or, Bool.false_or, Bool.or_true, Bool.or_false, Bool.not_true, Bool.not_false, Bool.or_self, Bool.and_self, Bool.not_not]
theorem ne146 (k : Sl Str) : callP (XG GK) TT 146 [sl 1 S k] = some (.bool (neB k)) := by
  refine callP_val T146 rfl (by simp only [go_sem]) ?_
  unfold Tryd.f146
  simp only [Option.getD_some]
  simp +decide only[go_sem,reduceAdd,reduceMul,reduceSub]
  refine gw trivial ?_
  simp +decide only[go_sem,reduceAdd,reduceMul,reduceSub]
  simp only [neB, D.bool.injEq]
  by_cases h : (k.items.length : Int) = 0
  · simp [h]
  · rw [decide_eq_true (show (0 : Int) < k.items.length by omega), beqF h]; rfl
theorem fg148 (f : FgS) : callP (XG GK) TT 148 [encFgS f] = some (.bool (fgB f)) := by
  refine callP_val T148 rfl (by simp only [go_sem]) ?_
  unfold Tryd.f148
  simp only [Option.getD_some]
  simp +decide only[go_sem,reduceAdd,reduceMul,reduceSub]
  by_cases h : (f.cols.items.length : Int) = 0
  · have h' : ((0 : Int) < (f.cols.items.length : Int)) = False := eq_false (by omega)
    refine gw h' ?_
    simp +decide only[go_sem,reduceAdd,reduceMul,reduceSub]
    rw [fgB, beqT h]; rfl
  · have h' : ((0 : Int) < (f.cols.items.length : Int)) = True := eq_true (by omega)
    refine gw h' ?_
    simp +decide only[go_sem,reduceAdd,reduceMul,reduceSub]
    rw [fgB, beqF h]; rfl
theorem rep152 (f : FgS) : callP (XG GK) TT 152 [encFgS f] = some (.bool (!dupS f.cols.items)) := by
  refine callP_val T152 rfl (by simp only [go_sem]) ?_
  unfold Tryd.f152
  simp only [Option.getD_some]
  have hc := rep126 (G := GK) f.cols
  simp +decide only[go_sem,reduceAdd,reduceMul,reduceSub,hc]
  refine gw hc ?_
  simp +decide only[go_sem,reduceAdd,reduceMul,reduceSub,hc]
theorem own_val {X : Ctx} {T : Nat → Option Fx} {g : Nat} {m : Mem} {ds : List D} {v : D} (hp : pfT T g = true) (hs : stripL ds = ds) (h : callP X T g ds = some v) : callR X T g m ds = some (v, m) := by
  rw [callR_own hp, hs, h]
def bigB (x : Stm) : Bool := decide (8 < x.cols.items.length) || (decide (4 < x.keys.items.length) || (decide (4 < x.fgns.items.length) || decide (4 < x.checks.items.length)))
def shI (x : Stm) : Int := bif bigB x then 3 else bif okB x then 0 else 1
theorem shape94 (x : Stm) (hx : SmallS x) : callP (XG GK) TT 94 [encStm x] = some (.int .i64 (shI x)) := by
  obtain ⟨x1, x2, x3, x4, x5, x6, x7, x8, x9⟩ := hx
  refine callP_val T94 rfl (by simp only [go_sem]) ?_
  unfold Tryd.f94
  simp only [Option.getD_some]
  have c1 := name123 x.name (by omega)
  have c2 : ∀ m : Mem, callR (XG GK) TT 124 m [sl 6 encCol x.cols, .func 125 []] = some (.bool (x.cols.items.all colB), ⟨m.boxes ++ [[.func 125 []]], m.toks⟩) := fun m =>
    all124 x.cols 125 [] m colB (eq_true (by decide)) fun y hy => own_val pf125 rfl (col125 y (by have := x6 y hy; omega))
  have c3 : ∀ m : Mem, callR (XG GK) TT 145 m [sl 1 (sl 1 S) x.keys, .func 146 []] = some (.bool (x.keys.items.all neB), ⟨m.boxes ++ [[.func 146 []]], m.toks⟩) := fun m =>
    all145 x.keys 146 [] m neB (eq_true (by decide)) fun y hy => own_val pf146 (by simp only [go_sem]) (ne146 y)
  have c4 : ∀ m : Mem, callR (XG GK) TT 147 m [sl 3 encFgS x.fgns, .func 148 []] = some (.bool (x.fgns.items.all fgB), ⟨m.boxes ++ [[.func 148 []]], m.toks⟩) := fun m =>
    all147 x.fgns 148 [] m fgB (eq_true (by decide)) fun y hy => own_val pf148 (by rw [stripL, stripFL_cons, strip_FgS]; rfl) (fg148 y)
  simp +decide only[go_sem,reduceAdd,reduceMul,reduceSub,c1,c2,c3,c4]
  refine gw (an c1 (an c2 (an c3 c4))) ?_
  by_cases h1 : (8 : Int) < (x.cols.items.length : Int)
  · refine gw (an c1 (an c2 (an c3 (an c4 h1)))) ?_
    simp +decide only[go_sem,reduceAdd,reduceMul,reduceSub,c1,c2,c3,c4,h1]
    rw [shI, bigB, decide_eq_true (show 8 < x.cols.items.length by omega), Bool.true_or, cond_true]
  refine gw (an c1 (an c2 (an c3 (an c4 h1)))) ?_
  by_cases h2 : (4 : Int) < (if (x.checks.items.length : Int) > (if (x.fgns.items.length : Int) > (x.keys.items.length : Int) then (x.fgns.items.length : Int) else (x.keys.items.length : Int)) then (x.checks.items.length : Int) else (if (x.fgns.items.length : Int) > (x.keys.items.length : Int) then (x.fgns.items.length : Int) else (x.keys.items.length : Int)))
  · refine gw (an c1 (an c2 (an c3 (an c4 (an h1 h2))))) ?_
    simp +decide only[go_sem,reduceAdd,reduceMul,reduceSub,c1,c2,c3,c4,h1,h2]
    have : bigB x = true := by
      simp only [bigB, Bool.or_eq_true, decide_eq_true_eq]
      split at h2 <;> split at h2 <;> omega
    rw [shI, this, cond_true]
  have hb : bigB x = false := by
    simp only [bigB, Bool.or_eq_false_iff, decide_eq_false_iff_not]
    split at h2 <;> split at h2 <;> omega
  refine gw (an c1 (an c2 (an c3 (an c4 (an h1 h2))))) ?_
  rw [shI, hb, cond_false]
  cases n : (nameB x.name)
  · refine gw (an c1 (an c2 (an c3 (an c4 (an h1 (an h2 n)))))) ?_
    simp +decide only[go_sem,reduceAdd,reduceMul,reduceSub,c1,c2,c3,c4,h1,h2,n]
    simp only [c1, c2, c3, c4, h1, h2, n, okB, cond_true, cond_false, Bool.true_and, Bool.false_and, Bool.and_true, Bool.and_false, Bool.true_or, Bool.false_or, Bool.or_true, Bool.or_false, Bool.not_true, Bool.not_false, Bool.or_self, Bool.and_self, Bool.not_not]
  cases n2 : ((x.cols.items.length : Int) == 0)
  · cases n3 : (x.cols.items.all colB)
    · refine gw (an c1 (an c2 (an c3 (an c4 (an h1 (an h2 (an n (an n2 n3)))))))) ?_
      simp +decide only[go_sem,reduceAdd,reduceMul,reduceSub,c1,c2,c3,c4,h1,h2,n,n2,n3]
      simp only [c1, c2, c3, c4, h1, h2, n, n2, n3, okB, cond_true, cond_false, Bool.true_and, Bool.false_and, Bool.and_true, Bool.and_false, Bool.true_or, Bool.false_or, Bool.or_true, Bool.or_false, Bool.not_true, Bool.not_false, Bool.or_self, Bool.and_self, Bool.not_not]
    cases n4 : (x.keys.items.all neB)
    · refine gw (an c1 (an c2 (an c3 (an c4 (an h1 (an h2 (an n (an n2 (an n3 n4))))))))) ?_
      simp +decide only[go_sem,reduceAdd,reduceMul,reduceSub,c1,c2,c3,c4,h1,h2,n,n2,n3,n4]
      simp only [c1, c2, c3, c4, h1, h2, n, n2, n3, n4, okB, cond_true, cond_false, Bool.true_and, Bool.false_and, Bool.and_true, Bool.and_false, Bool.true_or, Bool.false_or, Bool.or_true, Bool.or_false, Bool.not_true, Bool.not_false, Bool.or_self, Bool.and_self, Bool.not_not]
    cases n5 : (x.fgns.items.all fgB)
    · refine gw (an c1 (an c2 (an c3 (an c4 (an h1 (an h2 (an n (an n2 (an n3 (an n4 n5)))))))))) ?_
      simp +decide only[go_sem,reduceAdd,reduceMul,reduceSub,c1,c2,c3,c4,h1,h2,n,n2,n3,n4,n5]
      simp only [c1, c2, c3, c4, h1, h2, n, n2, n3, n4, n5, okB, cond_true, cond_false, Bool.true_and, Bool.false_and, Bool.and_true, Bool.and_false, Bool.true_or, Bool.false_or, Bool.or_true, Bool.or_false, Bool.not_true, Bool.not_false, Bool.or_self, Bool.and_self, Bool.not_not]
    · refine gw (an c1 (an c2 (an c3 (an c4 (an h1 (an h2 (an n (an n2 (an n3 (an n4 n5)))))))))) ?_
      simp +decide only[go_sem,reduceAdd,reduceMul,reduceSub,c1,c2,c3,c4,h1,h2,n,n2,n3,n4,n5]
      simp only [c1, c2, c3, c4, h1, h2, n, n2, n3, n4, n5, okB, cond_true, cond_false, Bool.true_and, Bool.false_and, Bool.and_true, Bool.and_false, Bool.true_or, Bool.false_or, Bool.or_true, Bool.or_false, Bool.not_true, Bool.not_false, Bool.or_self, Bool.and_self, Bool.not_not]
  · refine gw (an c1 (an c2 (an c3 (an c4 (an h1 (an h2 (an n n2))))))) ?_
    simp +decide only[go_sem,reduceAdd,reduceMul,reduceSub,c1,c2,c3,c4,h1,h2,n,n2]
    simp only [c1, c2, c3, c4, h1, h2, n, n2, okB, cond_true, cond_false, Bool.true_and, Bool.false_and, Bool.and_true, Bool.and_false, Bool.true_or, Bool.false_or, Bool.or_true, Bool.or_false, Bool.not_true, Bool.not_false, Bool.or_self, Bool.and_self, Bool.not_not]
end Go.Eng
