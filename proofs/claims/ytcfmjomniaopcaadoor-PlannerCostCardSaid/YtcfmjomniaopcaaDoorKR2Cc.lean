/- A part of the proof: see the last text. -/
import Derived.Test.YtcfmjomniaopcaaDoorKR2Pe
import Derived.Test.YtcfmjomniaopcaaDoorR2Func
set_option linter.unusedSimpArgs false
set_option linter.unusedVariables false
/- Estimates: the numbers, and the lists of indexes. -/
namespace Go.Eng
open Go Go.Proofs
open Nat (reduceAdd reduceMul reduceSub)
set_option maxRecDepth 20000
set_option maxHeartbeats 32000000
attribute [local irreducible] wpI endP
section
variable {G : Nat → Option (List D)}
def upF (n b : Int) : Int := (n + b - 1).tdiv b
theorem upF_le {n b : Int} (h0 : 0 ≤ n) (hb : 1 ≤ b) : 0 ≤ upF n b ∧ upF n b ≤ n := by
  unfold upF
  rw [Int.tdiv_eq_ediv_of_nonneg (by omega)]
  constructor
  · exact Int.ediv_nonneg (by omega) (by omega)
  · by_cases h : n = 0
    · subst h
      rw [Int.ediv_eq_zero_of_lt (by omega) (by omega)]; omega
    · have h1 : 1 ≤ n := by omega
      apply Int.ediv_le_of_le_mul (by omega)
      have : n * b = n * (b - 1) + n := by rw [Int.mul_sub]; omega
      have h2 : b - 1 ≤ n * (b - 1) := by
        have := Int.mul_le_mul_of_nonneg_right h1 (show 0 ≤ b - 1 by omega)
        omega
      omega
theorem upF_one {n : Int} (h0 : 0 ≤ n) (h1 : n ≤ 1000000) : upF n 1000000 = if 1 < n then 1 else n := by
  unfold upF
  rw [Int.tdiv_eq_ediv_of_nonneg (by omega)]
  split <;> omega
theorem up_facts {n b : Int} (h0 : 0 ≤ n) (h1 : n ≤ 1099511627776) (hb : 1 ≤ b) (hb2 : b ≤ 1000000) : IntKind.i64.wrap (n + b) = n + b ∧ IntKind.i64.wrap (n + b - 1) = n + b - 1 ∧ (b == 0) = false ∧ IntKind.i64.wrap ((n + b - 1).tdiv b) = upF n b := by
  have := upF_le h0 hb
  refine ⟨wrap_fit _ (by omega), wrap_fit _ (by omega), by simp; omega, wrap_fit _ ?_⟩
  unfold upF at this; omega
theorem up73 (n b : Int) (h0 : 0 ≤ n) (h1 : n ≤ 1099511627776) (hb : 1 ≤ b) (hb2 : b ≤ 1000000) : callP (XG G) TT 73 [.int .i64 n, .int .i64 b] = some (.int .i64 (upF n b)) := by
  obtain ⟨a1, a2, a3, a4⟩ := up_facts h0 h1 hb hb2
  refine callP_val T73 rfl (by simp only [go_sem]) ?_
  unfold Tryd.f73
  simp only [Option.getD_some]
  simp +decide only[go_sem,reduceAdd,reduceMul,reduceSub,a1,a2,a3,a4]
  refine gw (an a1 (an a2 (an a3 a4))) ?_
  simp +decide only[go_sem,reduceAdd,reduceMul,reduceSub,a1,a2,a3,a4]
theorem up113 (n b : Int) (h0 : 0 ≤ n) (h1 : n ≤ 1099511627776) (hb : 1 ≤ b) (hb2 : b ≤ 1000000) : callP (XG G) TT 113 [.int .i64 n, .int .i64 b] = some (.int .i64 (upF n b)) := by
  obtain ⟨a1, a2, a3, a4⟩ := up_facts h0 h1 hb hb2
  refine callP_val T113 rfl (by simp only [go_sem]) ?_
  unfold Tryd.f113
  simp only [Option.getD_some]
  simp +decide only[go_sem,reduceAdd,reduceMul,reduceSub,a1,a2,a3,a4]
  refine gw (an a1 (an a2 (an a3 a4))) ?_
  simp +decide only[go_sem,reduceAdd,reduceMul,reduceSub,a1,a2,a3,a4]
/-- At most the limit. -/
def liF (n : Int) : Int := if 1099511627776 < n then 1099511627776 else n
theorem liF_le (n : Int) (h : 0 ≤ n) : 0 ≤ liF n ∧ liF n ≤ 1099511627776 := by unfold liF; split <;> omega
theorem limit121 (n : Int) : callP (XG G) TT 121 [.int .i64 n] = some (.int .i64 (liF n)) := by
  refine callP_val T121 rfl (by simp only [go_sem]) ?_
  unfold Tryd.f121 liF
  simp only [Option.getD_some]
  simp +decide only[go_sem,reduceAdd,reduceMul,reduceSub]
  refine gw trivial ?_
  simp +decide only[go_sem,reduceAdd,reduceMul,reduceSub]
theorem plus72 (a b : Int) (ha : 0 ≤ a) (ha1 : a ≤ 1099511627776) (hb : 0 ≤ b) (hb1 : b ≤ 1099511627776) : callP (XG G) TT 72 [.int .i64 a, .int .i64 b] = some (.int .i64 (liF (a + b))) := by
  have w := wrap_fit (a + b) (by omega)
  refine callP_val T72 rfl (by simp only [go_sem]) ?_
  unfold Tryd.f72 liF
  simp only [Option.getD_some]
  simp +decide only[go_sem,reduceAdd,reduceMul,reduceSub,w]
  by_cases c : 1099511627776 < a + b
  · refine gw (an w c) ?_
    simp +decide only[go_sem,reduceAdd,reduceMul,reduceSub,w,c]
  · refine gw (an w c) ?_
    simp +decide only[go_sem,reduceAdd,reduceMul,reduceSub,w,c]
def prodF (a b : Int) : Int := if 0 < a ∧ (1099511627776 : Int).tdiv a < b then 1099511627776 else a * b
theorem prod_no {a b : Int} (ha : 0 ≤ a) (hb : 0 ≤ b) (h : ¬ (0 < a ∧ (1099511627776 : Int).tdiv a < b)) : 0 ≤ a * b ∧ a * b ≤ 1099511627776 := by
  refine ⟨Int.mul_nonneg ha hb, ?_⟩
  by_cases h0 : a = 0
  · subst h0; omega
  · have h1 : b ≤ (1099511627776 : Int).tdiv a := by omega
    rw [Int.tdiv_eq_ediv_of_nonneg (by omega)] at h1
    have h2 := Int.mul_le_mul_of_nonneg_left h1 ha
    have h3 := Int.mul_ediv_self_le (x := 1099511627776) (k := a) h0
    omega
theorem prodF_le {a b : Int} (ha : 0 ≤ a) (hb : 0 ≤ b) : 0 ≤ prodF a b ∧ prodF a b ≤ 1099511627776 := by
  unfold prodF; split
  · omega
  · exact prod_no ha hb (by assumption)
theorem div_fit {a : Int} (ha : 0 < a) : IntKind.i64.wrap ((1099511627776 : Int).tdiv a) = (1099511627776 : Int).tdiv a := by
  have h : 0 ≤ (1099511627776 : Int).tdiv a ∧ (1099511627776 : Int).tdiv a ≤ 1099511627776 := by
    rw [Int.tdiv_eq_ediv_of_nonneg (by omega)]
    exact ⟨Int.ediv_nonneg (by omega) (by omega), Int.ediv_le_self _ (by omega)⟩
  exact wrap_fit _ (by omega)
theorem times74 (a b : Int) (ha : 0 ≤ a) (ha1 : a ≤ 1099511627776) (hb : 0 ≤ b) (hb1 : b ≤ 1099511627776) : callP (XG G) TT 74 [.int .i64 a, .int .i64 b] = some (.int .i64 (prodF a b)) := by
  have hno := prod_no ha hb
  refine callP_val T74 rfl (by simp only [go_sem]) ?_
  unfold Tryd.f74 prodF
  simp only [Option.getD_some]
  simp +decide only[go_sem,reduceAdd,reduceMul,reduceSub]
  by_cases c : 0 < a
  · have z : (a == 0) = false := by simp; omega
    have w := div_fit c
    by_cases e : (1099511627776 : Int).tdiv a < b
    · refine gw (an c (an z (an w e))) ?_
      simp +decide only[go_sem,reduceAdd,reduceMul,reduceSub,c,z,w,e]
    · have w2 := wrap_fit (a * b) (by have := hno (by omega); omega)
      refine gw (an c (an z (an w (an e w2)))) ?_
      simp +decide only[go_sem,reduceAdd,reduceMul,reduceSub,c,z,w,e,w2]
  · have w2 := wrap_fit (a * b) (by have := hno (by omega); omega)
    refine gw (an c w2) ?_
    simp +decide only[go_sem,reduceAdd,reduceMul,reduceSub,c,w2]
    simp only [false_and, if_false]
theorem product122 (a b : Int) (ha : 0 ≤ a) (ha1 : a ≤ 1099511627776) (hb : 0 ≤ b) (hb1 : b ≤ 1099511627776) : callP (XG G) TT 122 [.int .i64 a, .int .i64 b] = some (.int .i64 (prodF a b)) := by
  have hno := prod_no ha hb
  have hl := limit121 (G := G) (a * b)
  refine callP_val T122 rfl (by simp only [go_sem]) ?_
  unfold Tryd.f122 prodF
  simp only [Option.getD_some]
  simp +decide only[go_sem,reduceAdd,reduceMul,reduceSub,hl]
  by_cases c : 0 < a
  · have z : (a == 0) = false := by simp; omega
    have w := div_fit c
    by_cases e : (1099511627776 : Int).tdiv a < b
    · refine gw (an hl (an c (an z (an w e)))) ?_
      simp +decide only[go_sem,reduceAdd,reduceMul,reduceSub,hl,c,z,w,e]
    · have h2 := hno (by omega)
      have w2 := wrap_fit (a * b) (by omega)
      have w3 : liF (a * b) = a * b := by unfold liF; rw [if_neg (by omega)]
      refine gw (an hl (an c (an z (an w (an e (an w2 w3)))))) ?_
      simp +decide only[go_sem,reduceAdd,reduceMul,reduceSub,hl,c,z,w,e,w2,w3]
  · have h2 := hno (by omega)
    have w2 := wrap_fit (a * b) (by omega)
    have w3 : liF (a * b) = a * b := by unfold liF; rw [if_neg (by omega)]
    refine gw (an hl (an c (an w2 w3))) ?_
    simp +decide only[go_sem,reduceAdd,reduceMul,reduceSub,hl,c,w2,w3]
    simp only [false_and, if_false]
def cntF (l : List I64) (s : Nat) : Int := match l[s]? with
  | none => 0
  | some x => if x.1 < 0 then 0 else if 1000000 < x.1 then 1000000 else x.1
theorem cntF_le (l : List I64) (s : Nat) : 0 ≤ cntF l s ∧ cntF l s ≤ 1000000 := by
  unfold cntF; split
  · omega
  · split
    · omega
    · split <;> omega
theorem count75 (c : Sl I64) (s : Nat) : callP (XG G) TT 75 [sl 1 I c, .int .i64 (s : Int)] = some (.int .i64 (cntF c.items s)) := by
  refine callP_val T75 rfl (by simp only [go_sem]) ?_
  unfold Tryd.f75 cntF
  simp only [Option.getD_some]
  simp +decide only[go_sem,reduceAdd,reduceMul,reduceSub]
  by_cases h : s < c.items.length
  · have hl : ((c.items.length : Int) ≤ (s : Int)) = False := eq_false (by omega)
    obtain ⟨x, hx⟩ : ∃ x, c.items[s]? = some x := ⟨_, List.getElem?_eq_getElem h⟩
    by_cases c1 : x.1 < 0
    · refine gw (an hl (an hx c1)) ?_
      simp +decide only[go_sem,reduceAdd,reduceMul,reduceSub,hl,hx,c1]
    by_cases c2 : 1000000 < x.1
    · refine gw (an hl (an hx (an c1 c2))) ?_
      simp +decide only[go_sem,reduceAdd,reduceMul,reduceSub,hl,hx,c1,c2]
    · refine gw (an hl (an hx (an c1 c2))) ?_
      simp +decide only[go_sem,reduceAdd,reduceMul,reduceSub,hl,hx,c1,c2]
  · have hl : ((c.items.length : Int) ≤ (s : Int)) = True := eq_true (by omega)
    have hx : c.items[s]? = none := List.getElem?_eq_none (by omega)
    refine gw (an hl hx) ?_
    simp +decide only[go_sem,reduceAdd,reduceMul,reduceSub,hl,hx]
/-- Do all columns of an index occur in a list? -/
def covB (cols k : List I64) : Bool := k.all fun c => cols.any fun x => x.1 == c.1
theorem within116 (l cols : Sl I64) : callP (XG G) TT 116 [sl 1 I l, sl 1 I cols] = some (.bool (covB cols.items l.items)) := by
  refine callP_val T116 rfl (by simp only [go_sem]) ?_
  unfold Tryd.f116
  simp only [Option.getD_some]
  have hlt := l.lt
  simp +decide only[go_sem,reduceAdd,reduceMul,reduceSub]
  refine gw trivial ?_
  refine wpI_loopC (T := Nat) [1, 7, 8, 9] rfl (by simp +decide only[go_sem,reduceAdd,reduceMul,reduceSub]; exact rfl) (fun k => [(9, .int .i64 (k : Int))]) (fun _ => []) (fun _ => ⟨[], []⟩) (fun k => k ≤ l.items.length ∧ covB cols.items (l.items.take k) = true) (fun k => l.items.length - k) 0 (by simp +decide only[go_sem,reduceAdd,reduceMul,reduceSub] <;> rfl) (by exact ⟨Nat.zero_le _, rfl⟩) ?_
  rintro k ⟨hk, hP⟩
  by_cases h : k < l.items.length
  · have l_x : ((k : Int) < ((l.items).length : Int)) = True := by simp; omega
    obtain ⟨x, g_x⟩ : ∃ a_, (l.items)[k]? = some a_ := ⟨_, List.getElem?_eq_getElem (by assumption)⟩
    have w_x := wrap_nat k (by omega)
    have c1 := ct135 (G := G) cols x.1
    have e : (cols.items.any fun y : I64 => x.1 == y.1) = cols.items.any fun y => y.1 == x.1 := by congr 1; funext y; exact Bool.beq_comm
    rw [e] at c1
    cases c : (cols.items.any fun y => y.1 == x.1)
    · refine gw (an l_x (an g_x (an w_x (an c1 c)))) ?_
      simp +decide only[go_sem,reduceAdd,reduceMul,reduceSub,l_x,g_x,w_x,c1,c]
      have : covB cols.items l.items = false := by
        unfold covB; rw [List.all_eq_false]; exact ⟨x, List.mem_of_getElem? g_x, by rw [c]; simp⟩
      rw [this]
    · refine gw (an l_x (an g_x (an w_x (an c1 c)))) ?_
      refine ⟨k + 1, by simp +decide only[go_sem,reduceAdd,reduceMul,reduceSub,l_x,g_x,w_x,c1,c] <;> rfl, ⟨by omega, ?_⟩, by omega⟩
      unfold covB at hP ⊢
      rw [List.take_add_one, g_x, List.all_append, hP]; simp [c]
  · have l_e1 : ((k : Int) < ((l.items).length : Int)) = False := by simp; omega
    rw [List.take_of_length_le (by omega)] at hP
    refine gw l_e1 ?_
    simp +decide only[go_sem,reduceAdd,reduceMul,reduceSub,l_e1]
    rw [hP]
end
end Go.Eng
/- Estimates: indexes of a table, and which of them a list of columns covers. -/
namespace Go.Eng
open Go Go.Proofs
open Nat (reduceAdd reduceMul reduceSub)
set_option maxRecDepth 20000
set_option maxHeartbeats 32000000
attribute [local irreducible] wpI endP
section
variable {G : Nat → Option (List D)}
def anyCov (cols : List I64) (s : List (Sl I64)) : Bool := s.any fun k => covB cols k.items
theorem covers76 (cols : Sl I64) (s : Sl (Sl I64)) : callP (XG G) TT 76 [sl 1 I cols, sl 1 (sl 1 I) s] = some (.bool (anyCov cols.items s.items)) := by
  refine callP_val T76 rfl (by simp only [go_sem]) ?_
  unfold Tryd.f76
  simp only [Option.getD_some]
  have hlt := s.lt
  simp +decide only[go_sem,reduceAdd,reduceMul,reduceSub]
  refine gw trivial ?_
  refine wpI_loopC (T := Nat) [0, 1, 5] rfl (by simp +decide only[go_sem,reduceAdd,reduceMul,reduceSub]; exact rfl) (fun k => [(5, .int .i64 (k : Int))]) (fun _ => []) (fun _ => ⟨[], []⟩) (fun k => k ≤ s.items.length ∧ anyCov cols.items (s.items.take k) = false) (fun k => s.items.length - k) 0 (by simp +decide only[go_sem,reduceAdd,reduceMul,reduceSub] <;> rfl) (by exact ⟨Nat.zero_le _, rfl⟩) ?_
  rintro k ⟨hk, hP⟩
  by_cases h : k < s.items.length
  · have l_x : ((k : Int) < ((s.items).length : Int)) = True := by simp; omega
    obtain ⟨x, g_x⟩ : ∃ a_, (s.items)[k]? = some a_ := ⟨_, List.getElem?_eq_getElem (by assumption)⟩
    have w_x := wrap_nat k (by omega)
    have hxl := x.lt
    refine gw (an l_x (an g_x w_x)) ?_
    refine wpI_loopC (T := Nat) [0, 1, 5, 6, 7] rfl (by simp +decide only[go_sem,reduceAdd,reduceMul,reduceSub,l_x,g_x,w_x]; exact rfl) (fun j => [(7, .int .i64 (j : Int)), (6, .bool (covB cols.items (x.items.take j)))]) (fun _ => []) (fun _ => ⟨[], []⟩) (fun j => j ≤ x.items.length) (fun j => x.items.length - j) 0 (by simp +decide only[go_sem,reduceAdd,reduceMul,reduceSub,l_x,g_x,w_x] <;> rfl) (by simp) ?_
    rintro j hj
    by_cases h1 : j < x.items.length
    · have l_y : ((j : Int) < ((x.items).length : Int)) = True := by simp; omega
      obtain ⟨y, g_y⟩ : ∃ a_, (x.items)[j]? = some a_ := ⟨_, List.getElem?_eq_getElem (by assumption)⟩
      have w_y := wrap_nat j (by omega)
      have c1 := has112 (G := G) cols y.1
      have e : covB cols.items (x.items.take (j + 1)) = (covB cols.items (x.items.take j) && cols.items.any fun z => z.1 == y.1) := by
        unfold covB; rw [List.take_add_one, g_y, List.all_append]; simp
      cases c : (covB cols.items (x.items.take j))
      · rw [c, Bool.false_and] at e
        refine gw (an l_x (an g_x (an w_x (an l_y (an g_y (an w_y (an c1 c))))))) ?_
        exact ⟨j + 1, by simp +decide only[go_sem,reduceAdd,reduceMul,reduceSub,l_x,g_x,w_x,l_y,g_y,w_y,c1,c,e] <;> rfl, by omega, by omega⟩
      · rw [c, Bool.true_and] at e
        refine gw (an l_x (an g_x (an w_x (an l_y (an g_y (an w_y (an c1 c))))))) ?_
        exact ⟨j + 1, by simp +decide only[go_sem,reduceAdd,reduceMul,reduceSub,l_x,g_x,w_x,l_y,g_y,w_y,c1,c,e] <;> rfl, by omega, by omega⟩
    · have l_e1 : ((j : Int) < ((x.items).length : Int)) = False := by simp; omega
      have ht : x.items.take j = x.items := List.take_of_length_le (by omega)
      rw [ht]
      cases c : (covB cols.items x.items)
      · refine gw (an l_x (an g_x (an w_x (an l_e1 c)))) ?_
        refine ⟨k + 1, by simp +decide only[go_sem,reduceAdd,reduceMul,reduceSub,l_x,g_x,w_x,l_e1,c] <;> rfl, ⟨by omega, ?_⟩, by omega⟩
        unfold anyCov at hP ⊢
        rw [List.take_add_one, g_x, List.any_append, hP]; simp [c]
      · refine gw (an l_x (an g_x (an w_x (an l_e1 c)))) ?_
        simp +decide only[go_sem,reduceAdd,reduceMul,reduceSub,l_x,g_x,w_x,l_e1,c]
        have : anyCov cols.items s.items = true := by
          unfold anyCov; rw [List.any_eq_true]; exact ⟨x, List.mem_of_getElem? g_x, c⟩
        rw [this]
  · have l_e1 : ((k : Int) < ((s.items).length : Int)) = False := by simp; omega
    rw [List.take_of_length_le (by omega)] at hP
    refine gw l_e1 ?_
    simp +decide only[go_sem,reduceAdd,reduceMul,reduceSub,l_e1]
    rw [hP]
def idxL (t : Tbl) : List (Sl I64) := t.keys.items ++ t.fgns.items.map (·.cols)
theorem app_D1 (l : List D) (x : D) : appendD 1 ⟨[], accT l⟩ (accD 1 l) [x] = some (accD 1 (l ++ [x]), ⟨[], accT (l ++ [x])⟩) := app_D 1 l [x]
theorem app_E1 (l : List D) (x : D) : appendD 1 ⟨[], accT l⟩ (accE 1 l) [x] = some (accE 1 (l ++ [x]), ⟨[], accT (l ++ [x])⟩) := app_E 1 l [x]
theorem okC_accE (k : Nat) (l : List D) : (accE k l).okC = true := by cases l <;> rfl
theorem fg_take (t : Tbl) (k : Nat) (x : Fgn) (h : t.fgns.items[k]? = some x) : (t.keys.items ++ (t.fgns.items.take (k + 1)).map (·.cols)).map (sl 1 I) = (t.keys.items ++ (t.fgns.items.take k).map (·.cols)).map (sl 1 I) ++ [sl 1 I x.cols] := by
  rw [List.take_add_one, h, List.map_append, List.map_append, List.map_append, List.map_append, List.append_assoc]; rfl
theorem idx77 (t : Tbl) (h1 : t.keys.items.length ≤ 10) (h2 : t.fgns.items.length ≤ 10) : ∃ s : Sl (Sl I64), s.items = idxL t ∧ callP (XG G) TT 77 [encTbl t] = some (sl 1 (sl 1 I) s) := by
  have hl : (idxL t).length < 4611686018427387904 := by unfold idxL; rw [List.length_append, List.length_map]; omega
  refine ⟨cn (idxL t), cn_items hl, ?_⟩
  rw [← out_cn 1 (sl 1 I) hl]
  refine callP_val T77 rfl (by simp only [go_sem]) ?_
  unfold Tryd.f77
  simp only [Option.getD_some]
  have p0 : appendD 1 ⟨[], []⟩ .nil (t.keys.items.map (sl 1 I)) = some (accD 1 (t.keys.items.map (sl 1 I)), ⟨[], accT (t.keys.items.map (sl 1 I))⟩) := app_D 1 [] _
  have hkl : (t.keys.items.length ≤ 16777216) = True := eq_true (by omega)
  simp +decide only[go_sem,reduceAdd,reduceMul,reduceSub,p0,hkl,List.length_map]
  repeat (first|(with_reducible first|refine q1 ?_|refine q2 ?_|refine q3 ?_|refine q4 ?_|refine q5 ?_|refine q6 ?_|refine q7 ?_|refine q8 ?_|refine q9 ?_|refine q10 ?_|refine q11 ?_|refine q12 (by decide) ?_)|((first|with_reducible refine q13 ?_|((with_reducible refine q14 ?_ ?_);focus exact rfl));intro K hK;simp +decide only[go_sem,reduceAdd,reduceMul,reduceSub,p0,hkl,List.length_map];with_reducible refine hK _ ?_;clear hK K)|(with_reducible refine q15 ?_;intro K J hK hJ;simp +decide only[go_sem,reduceAdd,reduceMul,reduceSub,p0,hkl,List.length_map];(with_reducible first|refine hK ?_|refine hJ ?_);clear hK hJ K J))
  refine wpI_loopC (T := Nat) [1, 3, 4] rfl (by simp +decide only[go_sem,reduceAdd,reduceMul,reduceSub,p0,hkl,List.length_map]; exact rfl) (fun k => [(4, .int .i64 (k : Int)), (3, accD 1 ((t.keys.items ++ (t.fgns.items.take k).map (·.cols)).map (sl 1 I)))]) (fun _ => []) (fun k => ⟨[], accT ((t.keys.items ++ (t.fgns.items.take k).map (·.cols)).map (sl 1 I))⟩) (fun k => k ≤ t.fgns.items.length) (fun k => t.fgns.items.length - k) 0 (by simp +decide only[go_sem,reduceAdd,reduceMul,reduceSub,p0,hkl,List.length_map] <;> rfl) (by simp) ?_
  rintro k hk
  by_cases h : k < t.fgns.items.length
  · have l_x : ((k : Int) < ((t.fgns.items).length : Int)) = True := by simp; omega
    obtain ⟨x, g_x⟩ : ∃ a_, (t.fgns.items)[k]? = some a_ := ⟨_, List.getElem?_eq_getElem (by assumption)⟩
    have w_x := wrap_nat k (by omega)
    have p1 := app_D1 ((t.keys.items ++ (t.fgns.items.take k).map (·.cols)).map (sl 1 I)) (sl 1 I x.cols)
    rw [← fg_take t k x g_x] at p1
    have hle : (((t.keys.items ++ (t.fgns.items.take k).map (·.cols))).length + 1 ≤ 16777216) = True := eq_true (by rw [List.length_append, List.length_map, List.length_take]; omega)
    generalize t.keys.items ++ (t.fgns.items.take k).map (·.cols) = L at *
    repeat (first|(with_reducible first|refine q1 ?_|refine q2 ?_|refine q3 ?_|refine q4 ?_|refine q5 ?_|refine q6 ?_|refine q7 ?_|refine q8 ?_|refine q9 ?_|refine q10 ?_|refine q11 ?_|refine q12 (by decide) ?_)|((first|with_reducible refine q13 ?_|((with_reducible refine q14 ?_ ?_);focus exact rfl));intro K hK;simp +decide only[go_sem,reduceAdd,reduceMul,reduceSub,p0,hkl,List.length_map,l_x,g_x,w_x,p1,hle];with_reducible refine hK _ ?_;clear hK K)|(with_reducible refine q15 ?_;intro K J hK hJ;simp +decide only[go_sem,reduceAdd,reduceMul,reduceSub,p0,hkl,List.length_map,l_x,g_x,w_x,p1,hle];(with_reducible first|refine hK ?_|refine hJ ?_);clear hK hJ K J))
    exact ⟨k + 1, by simp +decide only[go_sem,reduceAdd,reduceMul,reduceSub,p0,hkl,List.length_map,l_x,g_x,w_x] <;> rfl, by omega, by omega⟩
  · have l_e1 : ((k : Int) < ((t.fgns.items).length : Int)) = False := by simp; omega
    rw [List.take_of_length_le (by omega)]
    repeat (first|(with_reducible first|refine q1 ?_|refine q2 ?_|refine q3 ?_|refine q4 ?_|refine q5 ?_|refine q6 ?_|refine q7 ?_|refine q8 ?_|refine q9 ?_|refine q10 ?_|refine q11 ?_|refine q12 (by decide) ?_)|((first|with_reducible refine q13 ?_|((with_reducible refine q14 ?_ ?_);focus exact rfl));intro K hK;simp +decide only[go_sem,reduceAdd,reduceMul,reduceSub,p0,hkl,List.length_map,l_e1];with_reducible refine hK _ ?_;clear hK K)|(with_reducible refine q15 ?_;intro K J hK hJ;simp +decide only[go_sem,reduceAdd,reduceMul,reduceSub,p0,hkl,List.length_map,l_e1];(with_reducible first|refine hK ?_|refine hJ ?_);clear hK hJ K J))
    simp +decide only[go_sem,reduceAdd,reduceMul,reduceSub,p0,hkl,List.length_map,l_e1]
    exact strip_acc (stripFL_map (sl 1 I) (fun x => strip_slI 1 x) _)
end
end Go.Eng
/- Estimates: the program's list of indexes. -/
namespace Go.Eng
open Go Go.Proofs
open Nat (reduceAdd reduceMul reduceSub)
set_option maxRecDepth 20000
set_option maxHeartbeats 32000000
attribute [local irreducible] wpI endP
theorem clone160n : callR (XG GK) TT 160 ⟨[], []⟩ [.nil] = some (.nil, ⟨[], []⟩) := by
  refine callR_val T160 rfl ?_
  unfold Tryd.f160
  simp only [Option.getD_some]
  simp +decide only[go_sem,reduceAdd,reduceMul,reduceSub]
  refine gw trivial ?_
  simp +decide only[go_sem,reduceAdd,reduceMul,reduceSub]
theorem clone160s (l : List D) (hl : l.length ≤ 1000) : callR (XG GK) TT 160 ⟨[], []⟩ [.slice none 1 l] = some (accE 1 l, ⟨[], accT l⟩) := by
  have p0 : appendD 1 ⟨[], []⟩ (.slice (some 0) 1 []) l = some (accE 1 l, ⟨[], accT l⟩) := app_E 1 [] l
  have hle : (l.length ≤ 16777216) = True := eq_true (by omega)
  refine callR_val T160 rfl ?_
  unfold Tryd.f160
  simp only [Option.getD_some]
  simp +decide only[go_sem,reduceAdd,reduceMul,reduceSub,p0,hle]
  refine gw (an p0 hle) ?_
  simp +decide only[go_sem,reduceAdd,reduceMul,reduceSub,p0,hle]
theorem idx117 (t : Tbl) (h1 : t.keys.items.length ≤ 10) (h2 : t.fgns.items.length ≤ 10) : ∃ s : Sl (Sl I64), s.items = idxL t ∧ callP (XG GK) TT 117 [encTbl t] = some (sl 1 (sl 1 I) s) := by
  have hl : (idxL t).length < 4611686018427387904 := by unfold idxL; rw [List.length_append, List.length_map]; omega
  have hle : ∀ k, k < t.fgns.items.length → (((t.keys.items ++ (t.fgns.items.take k).map (·.cols))).length + 1 ≤ 16777216) = True := fun k hk => eq_true (by rw [List.length_append, List.length_map, List.length_take]; omega)
  have hs0 : stripL [encTbl t] = [encTbl t] := by simp only [go_sem]
  obtain ⟨nm, cl, ⟨ks, hks⟩, fg, ck⟩ := t
  have h2 : fg.items.length ≤ 10 := h2
  have hfl := fg.lt
  cases ks with
  | none =>
    refine ⟨cn (idxL ⟨nm, cl, ⟨none, hks⟩, fg, ck⟩), cn_items hl, ?_⟩
    rw [← out_cn 1 (sl 1 I) hl]
    refine callP_val T117 rfl hs0 ?_
    unfold Tryd.f117
    simp only [Option.getD_some]
    have hn : sl 1 (sl 1 I) (⟨none, hks⟩ : Sl (Sl I64)) = .nil := rfl
    have c160 := clone160n
    simp +decide only[go_sem,reduceAdd,reduceMul,reduceSub,hn,c160,List.length_map]
    repeat (first|(with_reducible first|refine q1 ?_|refine q2 ?_|refine q3 ?_|refine q4 ?_|refine q5 ?_|refine q6 ?_|refine q7 ?_|refine q8 ?_|refine q9 ?_|refine q10 ?_|refine q11 ?_|refine q12 (by decide) ?_)|((first|with_reducible refine q13 ?_|((with_reducible refine q14 ?_ ?_);focus exact rfl));intro K hK;simp +decide only[go_sem,reduceAdd,reduceMul,reduceSub,hn,c160,List.length_map];with_reducible refine hK _ ?_;clear hK K)|(with_reducible refine q15 ?_;intro K J hK hJ;simp +decide only[go_sem,reduceAdd,reduceMul,reduceSub,hn,c160,List.length_map];(with_reducible first|refine hK ?_|refine hJ ?_);clear hK hJ K J))
    refine wpI_loopC (T := Nat) [3, 10, 11, 12] rfl (by simp +decide only[go_sem,reduceAdd,reduceMul,reduceSub,hn,c160,List.length_map]; exact rfl) (fun k => [(12, .int .i64 (k : Int)), (3, accD 1 (((fg.items.take k).map (·.cols)).map (sl 1 I)))]) (fun _ => []) (fun k => ⟨[], accT (((fg.items.take k).map (·.cols)).map (sl 1 I))⟩) (fun k => k ≤ fg.items.length) (fun k => fg.items.length - k) 0 (by simp +decide only[go_sem,reduceAdd,reduceMul,reduceSub,hn,c160,List.length_map] <;> rfl) (by simp) ?_
    rintro k hk
    by_cases h : k < fg.items.length
    · have l_x : ((k : Int) < ((fg.items).length : Int)) = True := by simp; omega
      obtain ⟨x, g_x⟩ : ∃ a_, (fg.items)[k]? = some a_ := ⟨_, List.getElem?_eq_getElem (by assumption)⟩
      have w_x := wrap_nat k (by omega)
      have p1 := app_D1 (((fg.items.take k).map (·.cols)).map (sl 1 I)) (sl 1 I x.cols)
      have e := fg_take ⟨nm, cl, ⟨none, hks⟩, fg, ck⟩ k x g_x
      have e : ((fg.items.take (k + 1)).map (·.cols)).map (sl 1 I) = ((fg.items.take k).map (·.cols)).map (sl 1 I) ++ [sl 1 I x.cols] := e
      rw [← e] at p1
      have hq : (((fg.items.take k).map (·.cols)).length + 1 ≤ 16777216) = True := eq_true (by rw [List.length_map, List.length_take]; have : fg.items.length ≤ 10 := h2; omega)
      generalize (fg.items.take k).map (·.cols) = L at *
      repeat (first|(with_reducible first|refine q1 ?_|refine q2 ?_|refine q3 ?_|refine q4 ?_|refine q5 ?_|refine q6 ?_|refine q7 ?_|refine q8 ?_|refine q9 ?_|refine q10 ?_|refine q11 ?_|refine q12 (by decide) ?_)|((first|with_reducible refine q13 ?_|((with_reducible refine q14 ?_ ?_);focus exact rfl));intro K hK;simp +decide only[go_sem,reduceAdd,reduceMul,reduceSub,hn,c160,List.length_map,l_x,g_x,w_x,p1,hq];with_reducible refine hK _ ?_;clear hK K)|(with_reducible refine q15 ?_;intro K J hK hJ;simp +decide only[go_sem,reduceAdd,reduceMul,reduceSub,hn,c160,List.length_map,l_x,g_x,w_x,p1,hq];(with_reducible first|refine hK ?_|refine hJ ?_);clear hK hJ K J))
      exact ⟨k + 1, by simp +decide only[go_sem,reduceAdd,reduceMul,reduceSub,hn,c160,List.length_map,l_x,g_x,w_x] <;> rfl, by omega, by omega⟩
    · have l_e1 : ((k : Int) < ((fg.items).length : Int)) = False := by simp; omega
      rw [List.take_of_length_le (by omega)]
      repeat (first|(with_reducible first|refine q1 ?_|refine q2 ?_|refine q3 ?_|refine q4 ?_|refine q5 ?_|refine q6 ?_|refine q7 ?_|refine q8 ?_|refine q9 ?_|refine q10 ?_|refine q11 ?_|refine q12 (by decide) ?_)|((first|with_reducible refine q13 ?_|((with_reducible refine q14 ?_ ?_);focus exact rfl));intro K hK;simp +decide only[go_sem,reduceAdd,reduceMul,reduceSub,hn,c160,List.length_map,l_e1];with_reducible refine hK _ ?_;clear hK K)|(with_reducible refine q15 ?_;intro K J hK hJ;simp +decide only[go_sem,reduceAdd,reduceMul,reduceSub,hn,c160,List.length_map,l_e1];(with_reducible first|refine hK ?_|refine hJ ?_);clear hK hJ K J))
      simp +decide only[go_sem,reduceAdd,reduceMul,reduceSub,hn,c160,List.length_map,l_e1]
      exact strip_acc (stripFL_map (sl 1 I) (fun x => strip_slI 1 x) _)
  | some ks =>
    refine ⟨⟨some (idxL ⟨nm, cl, ⟨some ks, hks⟩, fg, ck⟩), hl⟩, rfl, ?_⟩
    refine callP_val T117 rfl hs0 ?_
    unfold Tryd.f117
    simp only [Option.getD_some]
    have hn : sl 1 (sl 1 I) (⟨some ks, hks⟩ : Sl (Sl I64)) = .slice none 1 (ks.map (sl 1 I)) := rfl
    have h1 : ks.length ≤ 10 := h1
    have c160 := clone160s (ks.map (sl 1 I)) (by rw [List.length_map]; omega)
    have hst : ∀ g, stripFL g (ks.map (sl 1 I)) = ks.map (sl 1 I) := fun g => stripFL_map (sl 1 I) (fun x => strip_slI 1 x) _
    simp +decide only[go_sem,reduceAdd,reduceMul,reduceSub,hn,c160,List.length_map,hst]
    repeat (first|(with_reducible first|refine q1 ?_|refine q2 ?_|refine q3 ?_|refine q4 ?_|refine q5 ?_|refine q6 ?_|refine q7 ?_|refine q8 ?_|refine q9 ?_|refine q10 ?_|refine q11 ?_|refine q12 (by decide) ?_)|((first|with_reducible refine q13 ?_|((with_reducible refine q14 ?_ ?_);focus exact rfl));intro K hK;simp +decide only[go_sem,reduceAdd,reduceMul,reduceSub,hn,c160,List.length_map,hst];with_reducible refine hK _ ?_;clear hK K)|(with_reducible refine q15 ?_;intro K J hK hJ;simp +decide only[go_sem,reduceAdd,reduceMul,reduceSub,hn,c160,List.length_map,hst];(with_reducible first|refine hK ?_|refine hJ ?_);clear hK hJ K J))
    refine wpI_loopC (T := Nat) [3, 10, 11, 12] rfl (by simp +decide only[go_sem,reduceAdd,reduceMul,reduceSub,hn,c160,List.length_map,hst]; exact rfl) (fun k => [(12, .int .i64 (k : Int)), (3, accE 1 ((ks ++ (fg.items.take k).map (·.cols)).map (sl 1 I)))]) (fun _ => []) (fun k => ⟨[], accT ((ks ++ (fg.items.take k).map (·.cols)).map (sl 1 I))⟩) (fun k => k ≤ fg.items.length) (fun k => fg.items.length - k) 0 (by simp +decide only[go_sem,reduceAdd,reduceMul,reduceSub,hn,c160,List.length_map,hst] <;> rfl) (by simp) ?_
    rintro k hk
    by_cases h : k < fg.items.length
    · have l_x : ((k : Int) < ((fg.items).length : Int)) = True := by simp; omega
      obtain ⟨x, g_x⟩ : ∃ a_, (fg.items)[k]? = some a_ := ⟨_, List.getElem?_eq_getElem (by assumption)⟩
      have w_x := wrap_nat k (by omega)
      have p1 := app_E1 ((ks ++ (fg.items.take k).map (·.cols)).map (sl 1 I)) (sl 1 I x.cols)
      have e := fg_take ⟨nm, cl, ⟨some ks, hks⟩, fg, ck⟩ k x g_x
      have e : (ks ++ (fg.items.take (k + 1)).map (·.cols)).map (sl 1 I) = (ks ++ (fg.items.take k).map (·.cols)).map (sl 1 I) ++ [sl 1 I x.cols] := e
      rw [← e] at p1
      have hq : ((ks ++ (fg.items.take k).map (·.cols)).length + 1 ≤ 16777216) = True := eq_true (by rw [List.length_append, List.length_map, List.length_take]; have : fg.items.length ≤ 10 := h2; omega)
      have ho := fun l => okC_accE 1 l
      generalize ks ++ (fg.items.take k).map (·.cols) = L at *
      repeat (first|(with_reducible first|refine q1 ?_|refine q2 ?_|refine q3 ?_|refine q4 ?_|refine q5 ?_|refine q6 ?_|refine q7 ?_|refine q8 ?_|refine q9 ?_|refine q10 ?_|refine q11 ?_|refine q12 (by decide) ?_)|((first|with_reducible refine q13 ?_|((with_reducible refine q14 ?_ ?_);focus exact rfl));intro K hK;simp +decide only[go_sem,reduceAdd,reduceMul,reduceSub,hn,c160,List.length_map,hst,l_x,g_x,w_x,p1,hq,ho];with_reducible refine hK _ ?_;clear hK K)|(with_reducible refine q15 ?_;intro K J hK hJ;simp +decide only[go_sem,reduceAdd,reduceMul,reduceSub,hn,c160,List.length_map,hst,l_x,g_x,w_x,p1,hq,ho];(with_reducible first|refine hK ?_|refine hJ ?_);clear hK hJ K J))
      exact ⟨k + 1, by simp +decide only[go_sem,reduceAdd,reduceMul,reduceSub,hn,c160,List.length_map,hst,l_x,g_x,w_x] <;> rfl, by omega, by omega⟩
    · have l_e1 : ((k : Int) < ((fg.items).length : Int)) = False := by simp; omega
      rw [List.take_of_length_le (by omega)]
      repeat (first|(with_reducible first|refine q1 ?_|refine q2 ?_|refine q3 ?_|refine q4 ?_|refine q5 ?_|refine q6 ?_|refine q7 ?_|refine q8 ?_|refine q9 ?_|refine q10 ?_|refine q11 ?_|refine q12 (by decide) ?_)|((first|with_reducible refine q13 ?_|((with_reducible refine q14 ?_ ?_);focus exact rfl));intro K hK;simp +decide only[go_sem,reduceAdd,reduceMul,reduceSub,hn,c160,List.length_map,hst,l_e1];with_reducible refine hK _ ?_;clear hK K)|(with_reducible refine q15 ?_;intro K J hK hJ;simp +decide only[go_sem,reduceAdd,reduceMul,reduceSub,hn,c160,List.length_map,hst,l_e1];(with_reducible first|refine hK ?_|refine hJ ?_);clear hK hJ K J))
      simp +decide only[go_sem,reduceAdd,reduceMul,reduceSub,hn,c160,List.length_map,hst,l_e1]
      rw [strip_accE (stripFL_map (sl 1 I) (fun x => strip_slI 1 x) _)]
      rfl
end Go.Eng
