/- A part of the proof: see the last text. -/
import Derived.Test.YtcfmjomniaopcaaDoorR2Cols
set_option linter.unusedSimpArgs false
set_option linter.unusedVariables false
/- Lists that are compared; numbers of columns. (Written in part by gen_eqs.py.) -/
namespace Go.Eng
open Go Go.Proofs
open Nat (reduceAdd reduceMul reduceSub)
set_option maxRecDepth 20000
set_option maxHeartbeats 32000000
attribute [local irreducible] wpI endP
variable {G : Nat → Option (List D)}
/-- The elements of two lists are equal. -/
def eqF {α : Type} (e : α → α → Bool) : List α → List α → Bool
  | [], [] => true
  | a :: r, b :: t => e a b && eqF e r t
  | _, _ => false
def eqS (a b : List Str) : Bool := eqF (fun x y => x == y) a b
def eqI (a b : List I64) : Bool := eqF (fun x y => x.1 == y.1) a b
theorem eqF_len {α : Type} {e : α → α → Bool} : ∀ {a b : List α}, ¬ a.length = b.length → eqF e a b = false
  | [], [], h => absurd rfl h
  | [], _ :: _, _ => rfl
  | _ :: _, [], _ => rfl
  | a :: r, b :: t, h => by
    rw [eqF, eqF_len (a := r) (b := t) (fun k => h (by simp [k])), Bool.and_false]
theorem eqF_step {α : Type} {e : α → α → Bool} {a b : List α} {k : Nat} {x y : α} (h : a[k]? = some x) (h2 : b[k]? = some y) : eqF e (a.drop k) (b.drop k) = (e x y && eqF e (a.drop (k + 1)) (b.drop (k + 1))) := by
  rw [dropc h, dropc h2, eqF]
theorem bneT {a b : Int} (h : ¬ a = b) : (a != b) = true := by simp [h]
theorem bneF {a b : Int} (h : a = b) : (a != b) = false := by simp [h]

theorem texts107 (a b : Sl Str) : callP (XG G) TT 107 [sl 1 S a, sl 1 S b] = some (.bool (eqS a.items b.items)) := by
  refine callP_val T107 rfl (by simp only [go_sem]) ?_
  unfold Tryd.f107
  simp only [Option.getD_some]
  have hlt := a.lt
  simp +decide only[go_sem,reduceAdd,reduceMul,reduceSub]
  by_cases hl : a.items.length = b.items.length
  · have hl' := bneF (congrArg (Nat.cast (R := Int)) hl)
    refine gw hl' ?_
    refine wpI_loopC (T := Nat) [0, 1, 5] rfl (by simp +decide only[go_sem,reduceAdd,reduceMul,reduceSub,hl']; exact rfl) (fun k => [(5, .int .i64 (k : Int))]) (fun _ => []) (fun _ => ⟨[], []⟩) (fun k => k ≤ a.items.length ∧ eqF (fun x y => x == y) (a.items.drop k) (b.items.drop k) = eqS a.items b.items) (fun k => a.items.length - k) 0 (by simp +decide only[go_sem,reduceAdd,reduceMul,reduceSub,hl'] <;> rfl) (by exact ⟨Nat.zero_le _, rfl⟩) ?_
    rintro k ⟨hk, hP⟩
    by_cases h : k < a.items.length
    · have l_x : ((k : Int) < ((a.items).length : Int)) = True := by simp; omega
      obtain ⟨x, g_x⟩ : ∃ a_, (a.items)[k]? = some a_ := ⟨_, List.getElem?_eq_getElem (by assumption)⟩
      have w_x := wrap_nat k (by omega)
      have h2 : k < b.items.length := by omega
      have l_y : ((k : Int) < ((b.items).length : Int)) = True := by simp; omega
      obtain ⟨y, g_y⟩ : ∃ a_, (b.items)[k]? = some a_ := ⟨_, List.getElem?_eq_getElem (by assumption)⟩
      have w_y := wrap_nat k (by omega)
      rw [eqF_step g_x g_y] at hP
      cases c : (x == y)
      · skip
        refine gw (an hl' (an l_x (an g_x (an w_x (an l_y (an g_y (an w_y c))))))) ?_
        rw [c, Bool.false_and] at hP
        simp +decide only[go_sem,reduceAdd,reduceMul,reduceSub,hl',l_x,g_x,w_x,l_y,g_y,w_y,c]
        rw [← hP]
      · skip
        refine gw (an hl' (an l_x (an g_x (an w_x (an l_y (an g_y (an w_y c))))))) ?_
        rw [c, Bool.true_and] at hP
        exact ⟨k + 1, by simp +decide only[go_sem,reduceAdd,reduceMul,reduceSub,hl',l_x,g_x,w_x,l_y,g_y,w_y,c] <;> rfl, ⟨by omega, hP⟩, by omega⟩
    · have l_x : ((k : Int) < ((a.items).length : Int)) = False := by simp; omega
      rw [List.drop_eq_nil_of_le (by omega), List.drop_eq_nil_of_le (by omega), eqF] at hP
      refine gw (an hl' l_x) ?_
      simp +decide only[go_sem,reduceAdd,reduceMul,reduceSub,hl',l_x]
      rw [← hP]
  · have hl' := bneT (show ¬ (a.items.length : Int) = (b.items.length : Int) from fun h => hl (Int.ofNat.inj h))
    refine gw hl' ?_
    simp +decide only[go_sem,reduceAdd,reduceMul,reduceSub]
    rw [eqS, eqF_len hl]
theorem equal151 (a b : Sl Str) : callP (XG G) TT 151 [sl 1 S a, sl 1 S b] = some (.bool (eqS a.items b.items)) := by
  refine callP_val T151 rfl (by simp only [go_sem]) ?_
  unfold Tryd.f151
  simp only [Option.getD_some]
  have hlt := a.lt
  simp +decide only[go_sem,reduceAdd,reduceMul,reduceSub]
  by_cases hl : a.items.length = b.items.length
  · have hl' := bneF (congrArg (Nat.cast (R := Int)) hl)
    refine gw hl' ?_
    refine wpI_loopC (T := Nat) [0, 1, 12, 13] rfl (by simp +decide only[go_sem,reduceAdd,reduceMul,reduceSub,hl']; exact rfl) (fun k => [(13, .int .i64 (k : Int))]) (fun _ => []) (fun _ => ⟨[], []⟩) (fun k => k ≤ a.items.length ∧ eqF (fun x y => x == y) (a.items.drop k) (b.items.drop k) = eqS a.items b.items) (fun k => a.items.length - k) 0 (by simp +decide only[go_sem,reduceAdd,reduceMul,reduceSub,hl'] <;> rfl) (by exact ⟨Nat.zero_le _, rfl⟩) ?_
    rintro k ⟨hk, hP⟩
    by_cases h : k < a.items.length
    · have l_x : ((k : Int) < ((a.items).length : Int)) = True := by simp; omega
      obtain ⟨x, g_x⟩ : ∃ a_, (a.items)[k]? = some a_ := ⟨_, List.getElem?_eq_getElem (by assumption)⟩
      have w_x := wrap_nat k (by omega)
      have h2 : k < b.items.length := by omega
      have l_y : ((k : Int) < ((b.items).length : Int)) = True := by simp; omega
      obtain ⟨y, g_y⟩ : ∃ a_, (b.items)[k]? = some a_ := ⟨_, List.getElem?_eq_getElem (by assumption)⟩
      have w_y := wrap_nat k (by omega)
      rw [eqF_step g_x g_y] at hP
      cases c : (x == y)
      · skip
        refine gw (an hl' (an l_x (an g_x (an w_x (an l_y (an g_y (an w_y c))))))) ?_
        rw [c, Bool.false_and] at hP
        simp +decide only[go_sem,reduceAdd,reduceMul,reduceSub,hl',l_x,g_x,w_x,l_y,g_y,w_y,c]
        rw [← hP]
      · skip
        refine gw (an hl' (an l_x (an g_x (an w_x (an l_y (an g_y (an w_y c))))))) ?_
        rw [c, Bool.true_and] at hP
        exact ⟨k + 1, by simp +decide only[go_sem,reduceAdd,reduceMul,reduceSub,hl',l_x,g_x,w_x,l_y,g_y,w_y,c] <;> rfl, ⟨by omega, hP⟩, by omega⟩
    · have l_x : ((k : Int) < ((a.items).length : Int)) = False := by simp; omega
      rw [List.drop_eq_nil_of_le (by omega), List.drop_eq_nil_of_le (by omega), eqF] at hP
      refine gw (an hl' l_x) ?_
      simp +decide only[go_sem,reduceAdd,reduceMul,reduceSub,hl',l_x]
      rw [← hP]
  · have hl' := bneT (show ¬ (a.items.length : Int) = (b.items.length : Int) from fun h => hl (Int.ofNat.inj h))
    refine gw hl' ?_
    simp +decide only[go_sem,reduceAdd,reduceMul,reduceSub]
    rw [eqS, eqF_len hl]
theorem ints62 (a b : Sl I64) : callP (XG G) TT 62 [sl 1 I a, sl 1 I b] = some (.bool (eqI a.items b.items)) := by
  refine callP_val T62 rfl (by simp only [go_sem]) ?_
  unfold Tryd.f62
  simp only [Option.getD_some]
  have hlt := a.lt
  simp +decide only[go_sem,reduceAdd,reduceMul,reduceSub]
  by_cases hl : a.items.length = b.items.length
  · have hl' := bneF (congrArg (Nat.cast (R := Int)) hl)
    refine gw hl' ?_
    refine wpI_loopC (T := Nat) [0, 1, 5] rfl (by simp +decide only[go_sem,reduceAdd,reduceMul,reduceSub,hl']; exact rfl) (fun k => [(5, .int .i64 (k : Int))]) (fun _ => []) (fun _ => ⟨[], []⟩) (fun k => k ≤ a.items.length ∧ eqF (fun x y => x.1 == y.1) (a.items.drop k) (b.items.drop k) = eqI a.items b.items) (fun k => a.items.length - k) 0 (by simp +decide only[go_sem,reduceAdd,reduceMul,reduceSub,hl'] <;> rfl) (by exact ⟨Nat.zero_le _, rfl⟩) ?_
    rintro k ⟨hk, hP⟩
    by_cases h : k < a.items.length
    · have l_x : ((k : Int) < ((a.items).length : Int)) = True := by simp; omega
      obtain ⟨x, g_x⟩ : ∃ a_, (a.items)[k]? = some a_ := ⟨_, List.getElem?_eq_getElem (by assumption)⟩
      have w_x := wrap_nat k (by omega)
      have h2 : k < b.items.length := by omega
      have l_y : ((k : Int) < ((b.items).length : Int)) = True := by simp; omega
      obtain ⟨y, g_y⟩ : ∃ a_, (b.items)[k]? = some a_ := ⟨_, List.getElem?_eq_getElem (by assumption)⟩
      have w_y := wrap_nat k (by omega)
      rw [eqF_step g_x g_y] at hP
      cases c : (x.1 == y.1)
      · have c2 : (x.1 != y.1) = true := by rw [bne, c]; rfl
        refine gw (an hl' (an l_x (an g_x (an w_x (an l_y (an g_y (an w_y (an c c2)))))))) ?_
        rw [c, Bool.false_and] at hP
        simp +decide only[go_sem,reduceAdd,reduceMul,reduceSub,hl',l_x,g_x,w_x,l_y,g_y,w_y,c]
        rw [← hP]
      · have c2 : (x.1 != y.1) = false := by rw [bne, c]; rfl
        refine gw (an hl' (an l_x (an g_x (an w_x (an l_y (an g_y (an w_y (an c c2)))))))) ?_
        rw [c, Bool.true_and] at hP
        exact ⟨k + 1, by simp +decide only[go_sem,reduceAdd,reduceMul,reduceSub,hl',l_x,g_x,w_x,l_y,g_y,w_y,c] <;> rfl, ⟨by omega, hP⟩, by omega⟩
    · have l_x : ((k : Int) < ((a.items).length : Int)) = False := by simp; omega
      rw [List.drop_eq_nil_of_le (by omega), List.drop_eq_nil_of_le (by omega), eqF] at hP
      refine gw (an hl' l_x) ?_
      simp +decide only[go_sem,reduceAdd,reduceMul,reduceSub,hl',l_x]
      rw [← hP]
  · have hl' := bneT (show ¬ (a.items.length : Int) = (b.items.length : Int) from fun h => hl (Int.ofNat.inj h))
    refine gw hl' ?_
    simp +decide only[go_sem,reduceAdd,reduceMul,reduceSub]
    rw [eqI, eqF_len hl]
theorem equal120 (a b : Sl I64) : callP (XG G) TT 120 [sl 1 I a, sl 1 I b] = some (.bool (eqI a.items b.items)) := by
  refine callP_val T120 rfl (by simp only [go_sem]) ?_
  unfold Tryd.f120
  simp only [Option.getD_some]
  have hlt := a.lt
  simp +decide only[go_sem,reduceAdd,reduceMul,reduceSub]
  by_cases hl : a.items.length = b.items.length
  · have hl' := bneF (congrArg (Nat.cast (R := Int)) hl)
    refine gw hl' ?_
    refine wpI_loopC (T := Nat) [0, 1, 12, 13] rfl (by simp +decide only[go_sem,reduceAdd,reduceMul,reduceSub,hl']; exact rfl) (fun k => [(13, .int .i64 (k : Int))]) (fun _ => []) (fun _ => ⟨[], []⟩) (fun k => k ≤ a.items.length ∧ eqF (fun x y => x.1 == y.1) (a.items.drop k) (b.items.drop k) = eqI a.items b.items) (fun k => a.items.length - k) 0 (by simp +decide only[go_sem,reduceAdd,reduceMul,reduceSub,hl'] <;> rfl) (by exact ⟨Nat.zero_le _, rfl⟩) ?_
    rintro k ⟨hk, hP⟩
    by_cases h : k < a.items.length
    · have l_x : ((k : Int) < ((a.items).length : Int)) = True := by simp; omega
      obtain ⟨x, g_x⟩ : ∃ a_, (a.items)[k]? = some a_ := ⟨_, List.getElem?_eq_getElem (by assumption)⟩
      have w_x := wrap_nat k (by omega)
      have h2 : k < b.items.length := by omega
      have l_y : ((k : Int) < ((b.items).length : Int)) = True := by simp; omega
      obtain ⟨y, g_y⟩ : ∃ a_, (b.items)[k]? = some a_ := ⟨_, List.getElem?_eq_getElem (by assumption)⟩
      have w_y := wrap_nat k (by omega)
      rw [eqF_step g_x g_y] at hP
      cases c : (x.1 == y.1)
      · have c2 : (x.1 != y.1) = true := by rw [bne, c]; rfl
        refine gw (an hl' (an l_x (an g_x (an w_x (an l_y (an g_y (an w_y (an c c2)))))))) ?_
        rw [c, Bool.false_and] at hP
        simp +decide only[go_sem,reduceAdd,reduceMul,reduceSub,hl',l_x,g_x,w_x,l_y,g_y,w_y,c]
        rw [← hP]
      · have c2 : (x.1 != y.1) = false := by rw [bne, c]; rfl
        refine gw (an hl' (an l_x (an g_x (an w_x (an l_y (an g_y (an w_y (an c c2)))))))) ?_
        rw [c, Bool.true_and] at hP
        exact ⟨k + 1, by simp +decide only[go_sem,reduceAdd,reduceMul,reduceSub,hl',l_x,g_x,w_x,l_y,g_y,w_y,c] <;> rfl, ⟨by omega, hP⟩, by omega⟩
    · have l_x : ((k : Int) < ((a.items).length : Int)) = False := by simp; omega
      rw [List.drop_eq_nil_of_le (by omega), List.drop_eq_nil_of_le (by omega), eqF] at hP
      refine gw (an hl' l_x) ?_
      simp +decide only[go_sem,reduceAdd,reduceMul,reduceSub,hl',l_x]
      rw [← hP]
  · have hl' := bneT (show ¬ (a.items.length : Int) = (b.items.length : Int) from fun h => hl (Int.ofNat.inj h))
    refine gw hl' ?_
    simp +decide only[go_sem,reduceAdd,reduceMul,reduceSub]
    rw [eqI, eqF_len hl]
/-- A small number, as an int. -/
def mkI (n : Int) (h : -9223372036854775808 ≤ n ∧ n ≤ 9223372036854775807) : I64 := ⟨n, h⟩
def iN (n : Nat) : I64 := if h : n < 4611686018427387904 then mkI n (by omega) else mkI 0 (by omega)
theorem iN_1 {n : Nat} (h : n < 4611686018427387904) : (iN n).1 = (n : Int) := by unfold iN; rw [dif_pos h]; rfl
/-- A list as a slice: nil, if it is empty. -/
def mkSl {α : Type} (o : Option (List α)) (h : (o.getD []).length < 4611686018427387904) : Sl α := ⟨o, h⟩
def cn {α : Type} (l : List α) : Sl α := if h : l.length < 4611686018427387904 then (match l, h with | [], _ => mkSl none (by simp) | a :: r, h => mkSl (some (a :: r)) h) else mkSl none (by simp)
theorem cn_items {α : Type} {l : List α} (h : l.length < 4611686018427387904) : (cn l).items = l := by
  unfold cn; rw [dif_pos h]; cases l <;> rfl
theorem out_cn {α : Type} (k : Nat) (f : α → D) {l : List α} (h : l.length < 4611686018427387904) : outD k (l.map f) = sl k f (cn l) := by
  unfold cn; rw [dif_pos h]; cases l <;> rfl
/-- The numbers of columns with names. -/
def numsL (cols : List Col) (acc : List I64) : List Str → Option (List I64)
  | [] => some acc
  | n :: r => match fnd (fun c : Col => c.name == n) 0 cols with
    | some k => numsL cols (acc ++ [iN k]) r
    | none => none
def numsT : Option (List I64) → D
  | some l => .tuple [outD 1 (l.map I), .bool true]
  | none => .tuple [.nil, .bool false]
theorem fnd_lt {α : Type} {p : α → Bool} {l : List α} {k : Nat} (h : fnd p 0 l = some k) : k < l.length := by
  obtain ⟨_, x, h2, _⟩ := fnd_some p l 0 k h
  exact (List.getElem?_eq_some_iff.1 h2).1
theorem strip_Is {g : Nat → Nat → Nat → Nat → D} (l : List I64) : stripFL g (l.map I) = l.map I := stripFL_map I (fun _ => rfl) l
theorem strip_Ss {g : Nat → Nat → Nat → Nat → D} (l : List Str) : stripFL g (l.map S) = l.map S := stripFL_map S (fun _ => rfl) l
theorem numbers108 (t : Tbl) (s : Sl Str) (hs : s.items.length ≤ 100) : callP (XG G) TT 108 [encTbl t, sl 1 S s] = some (numsT (numsL t.cols.items [] s.items)) := by
  refine callP_val T108 rfl (by simp only [go_sem]) ?_
  unfold Tryd.f108
  simp only [Option.getD_some]
  simp +decide only[go_sem,reduceAdd,reduceMul,reduceSub]
  refine gw trivial ?_
  refine wpI_loopC (T := Nat × List I64) [1, 2, 6, 7] rfl (by simp +decide only[go_sem,reduceAdd,reduceMul,reduceSub]; exact rfl) (fun p => [(7, .int .i64 (p.1 : Int)), (6, accD 1 (p.2.map I))]) (fun _ => []) (fun p => ⟨[], accT (p.2.map I)⟩) (fun p => p.1 ≤ s.items.length ∧ p.2.length = p.1 ∧ numsL t.cols.items p.2 (s.items.drop p.1) = numsL t.cols.items [] s.items) (fun p => s.items.length - p.1) (0, []) (by simp +decide only[go_sem,reduceAdd,reduceMul,reduceSub] <;> rfl) (by simp) ?_
  rintro ⟨k, acc⟩ ⟨hk, ha, hP⟩
  simp only at hk ha hP ⊢
  by_cases h : k < s.items.length
  · have l_x : ((k : Int) < ((s.items).length : Int)) = True := by simp; omega
    obtain ⟨x, g_x⟩ : ∃ a_, (s.items)[k]? = some a_ := ⟨_, List.getElem?_eq_getElem (by assumption)⟩
    have w_x := wrap_nat k (by omega)
    rw [dropc g_x, numsL] at hP
    have hc := col28 (G := G) t x
    simp only [encTbl_eq] at hc
    have hlt := t.cols.lt
    have fl := @fnd_lt _ (fun c : Col => c.name == x) t.cols.items
    generalize fnd (fun c : Col => c.name == x) 0 t.cols.items = o at *
    cases o with
    | none =>
      simp only [fndT] at hc hP
      refine gw (an l_x (an g_x (an w_x hc))) ?_
      simp +decide only[go_sem,reduceAdd,reduceMul,reduceSub,l_x,g_x,w_x]
      rw [← hP]; rfl
    | some j =>
      have fl := fl rfl
      simp only [fndT] at hc hP
      have hl : ((acc.map I).length + 1 ≤ 16777216) = True := eq_true (by rw [List.length_map]; omega)
      refine gw (an l_x (an g_x (an w_x (an hc hl)))) ?_
      refine ⟨(k + 1, acc ++ [iN j]), ?_, ⟨by simp only; omega, by simp [ha], hP⟩, by simp only; omega⟩
      rw [List.map_append, List.map_cons, List.map_nil, I, iN_1 (show j < 4611686018427387904 by omega)]
      exact by simp +decide only[go_sem,reduceAdd,reduceMul,reduceSub,l_x,g_x,w_x] <;> rfl
  · have l_x : ((k : Int) < ((s.items).length : Int)) = False := by simp; omega
    rw [List.drop_eq_nil_of_le (by omega), numsL] at hP
    refine gw l_x ?_
    simp +decide only[go_sem,reduceAdd,reduceMul,reduceSub,l_x]
    rw [← hP, numsT, strip_acc (strip_Is acc)]
theorem names127 (s : Sl Col) (hs : s.items.length ≤ 100) : callP (XG G) TT 127 [sl 6 encCol s] = some (sl 1 S (cn (s.items.map (·.name)))) := by
  rw [← out_cn 1 S (by rw [List.length_map]; omega)]
  refine callP_val T127 rfl (by simp only [go_sem]) ?_
  unfold Tryd.f127
  simp only [Option.getD_some]
  simp +decide only[go_sem,reduceAdd,reduceMul,reduceSub]
  refine gw trivial ?_
  refine wpI_loopC (T := Nat) [3, 6, 7, 8] rfl (by simp +decide only[go_sem,reduceAdd,reduceMul,reduceSub]; exact rfl) (fun k => [(8, .int .i64 (k : Int)), (3, accD 1 (((s.items.take k).map (·.name)).map S))]) (fun _ => []) (fun k => ⟨[], accT (((s.items.take k).map (·.name)).map S)⟩) (fun k => k ≤ s.items.length) (fun k => s.items.length - k) 0 (by simp +decide only[go_sem,reduceAdd,reduceMul,reduceSub] <;> rfl) (by simp) ?_
  rintro k hk
  by_cases h : k < s.items.length
  · have l_x : ((k : Int) < ((s.items).length : Int)) = True := by simp; omega
    obtain ⟨x, g_x⟩ : ∃ a_, (s.items)[k]? = some a_ := ⟨_, List.getElem?_eq_getElem (by assumption)⟩
    have w_x := wrap_nat k (by omega)
    have hl : ((((s.items.take k).map (·.name)).map S).length + 1 ≤ 16777216) = True := by
      have : (((s.items.take k).map (·.name)).map S).length ≤ s.items.length := by simp only [List.length_map]; exact List.length_take_le' ..
      simp only [eq_iff_iff, iff_true]; omega
    refine gw (an l_x (an g_x (an w_x hl))) ?_
    refine ⟨k + 1, ?_, by omega, by omega⟩
    rw [List.take_add_one, g_x, List.map_append, List.map_append]
    exact by simp +decide only[go_sem,reduceAdd,reduceMul,reduceSub,l_x,g_x,w_x] <;> rfl
  · have l_x : ((k : Int) < ((s.items).length : Int)) = False := by simp; omega
    rw [List.take_of_length_le (by omega)]
    refine gw l_x ?_
    simp +decide only[go_sem,reduceAdd,reduceMul,reduceSub,l_x]
    exact strip_acc (strip_Ss _)
/-- Columns have the same types. -/
def typF (ct cu : List Col) : List I64 → List I64 → Bool
  | x :: a, y :: b => (match atI ct x.1, atI cu y.1 with | some c, some d => c.a.1 == d.a.1 | _, _ => false) && typF ct cu a b
  | _, _ => true
theorem typF_swap (ct cu : List Col) : ∀ a b : List I64, typF ct cu a b = typF cu ct b a
  | [], [] => rfl
  | [], _ :: _ => rfl
  | _ :: _, [] => rfl
  | x :: a, y :: b => by
    simp only [typF]
    rw [typF_swap ct cu a b]
    cases atI ct x.1 <;> cases atI cu y.1 <;> simp only []
    rename_i c d
    rw [show (c.a.1 == d.a.1) = (d.a.1 == c.a.1) from Bool.beq_comm]
theorem typF_nil (ct cu : List Col) (b : List I64) : typF ct cu [] b = true := by cases b <;> rfl
theorem typF_step {ct cu : List Col} {a b : List I64} {k : Nat} {x y : I64} {c d : Col} (h : a[k]? = some x) (h2 : b[k]? = some y) (hc : atI ct x.1 = some c) (hd : atI cu y.1 = some d) : typF ct cu (a.drop k) (b.drop k) = ((c.a.1 == d.a.1) && typF ct cu (a.drop (k + 1)) (b.drop (k + 1))) := by
  rw [dropc h, dropc h2, typF, hc, hd]
/-- All of them are columns. -/
def inC (cols : List Col) (l : List I64) : Prop := ∀ x ∈ l, ∃ c, atI cols x.1 = some c
theorem types109 (t u : Tbl) (a b : Sl I64) (hl : a.items.length ≤ b.items.length) (ha : inC t.cols.items a.items) (hb : inC u.cols.items b.items) :
    callP (XG G) TT 109 [encTbl t, encTbl u, sl 1 I a, sl 1 I b] = some (.bool (typF t.cols.items u.cols.items a.items b.items)) := by
  refine callP_val T109 rfl (by simp only [go_sem]) ?_
  unfold Tryd.f109
  simp only [Option.getD_some]
  have hlt := a.lt
  simp +decide only[go_sem,reduceAdd,reduceMul,reduceSub]
  refine gw trivial ?_
  refine wpI_loopC (T := Nat) [2, 3, 4, 5, 9] rfl (by simp +decide only[go_sem,reduceAdd,reduceMul,reduceSub]; exact rfl) (fun k => [(9, .int .i64 (k : Int))]) (fun _ => []) (fun _ => ⟨[], []⟩) (fun k => k ≤ a.items.length ∧ typF t.cols.items u.cols.items (a.items.drop k) (b.items.drop k) = typF t.cols.items u.cols.items a.items b.items) (fun k => a.items.length - k) 0 (by simp +decide only[go_sem,reduceAdd,reduceMul,reduceSub] <;> rfl) (by exact ⟨Nat.zero_le _, rfl⟩) ?_
  rintro k ⟨hk, hP⟩
  by_cases h : k < a.items.length
  · have l_x : ((k : Int) < ((a.items).length : Int)) = True := by simp; omega
    obtain ⟨x, g_x⟩ : ∃ a_, (a.items)[k]? = some a_ := ⟨_, List.getElem?_eq_getElem (by assumption)⟩
    have w_x := wrap_nat k (by omega)
    have h2 : k < b.items.length := by omega
    have l_y : ((k : Int) < ((b.items).length : Int)) = True := by simp; omega
    obtain ⟨y, g_y⟩ : ∃ a_, (b.items)[k]? = some a_ := ⟨_, List.getElem?_eq_getElem (by assumption)⟩
    have w_y := wrap_nat k (by omega)
    obtain ⟨c, hc⟩ := ha x (List.mem_of_getElem? g_x)
    obtain ⟨d, hd⟩ := hb y (List.mem_of_getElem? g_y)
    rw [typF_step g_x g_y hc hd] at hP
    cases e : c.a.1 == d.a.1
    · have e2 : (c.a.1 != d.a.1) = true := by rw [bne, e]; rfl
      refine gw (an l_x (an g_x (an w_x (an l_y (an g_y (an w_y (an hc (an hd e2)))))))) ?_
      rw [e, Bool.false_and] at hP
      simp +decide only[go_sem,reduceAdd,reduceMul,reduceSub,l_x,g_x,w_x,l_y,g_y,w_y,hc,hd]
      rw [← hP]
    · have e2 : (c.a.1 != d.a.1) = false := by rw [bne, e]; rfl
      refine gw (an l_x (an g_x (an w_x (an l_y (an g_y (an w_y (an hc (an hd e2)))))))) ?_
      rw [e, Bool.true_and] at hP
      exact ⟨k + 1, by simp +decide only[go_sem,reduceAdd,reduceMul,reduceSub,l_x,g_x,w_x,l_y,g_y,w_y,hc,hd] <;> rfl, ⟨by omega, hP⟩, by omega⟩
  · have l_x : ((k : Int) < ((a.items).length : Int)) = False := by simp; omega
    rw [List.drop_eq_nil_of_le (by omega), typF_nil] at hP
    refine gw l_x ?_
    simp +decide only[go_sem,reduceAdd,reduceMul,reduceSub,l_x]
    rw [← hP]
end Go.Eng
