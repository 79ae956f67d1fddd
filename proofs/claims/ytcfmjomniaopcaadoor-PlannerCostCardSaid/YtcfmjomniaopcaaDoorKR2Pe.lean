/- A part of the proof: see the last text. -/
import Derived.Test.YtcfmjomniaopcaaDoorKR2Few
import Derived.Test.YtcfmjomniaopcaaDoorKEngA2
import Derived.Test.YtcfmjomniaopcaaDoorKEngU
import Derived.Test.YtcfmjomniaopcaaDoorR2Eqs
set_option linter.unusedSimpArgs false
set_option linter.unusedVariables false
/- Bound statements: the data, and what is asked of the sources. -/
namespace Go.Eng
open Go Go.Proofs
open Nat (reduceAdd reduceMul reduceSub)
set_option maxRecDepth 20000
set_option maxHeartbeats 32000000
variable {G : Nat → Option (List D)}
def vr (c : Col) : D := .agg [.int .i64 c.a.1, .int .i64 c.b.1, .int .i64 c.c.1, .int .i64 c.d.1, .bool (!c.e)]
theorem strip_vrs {g : Nat → Nat → Nat → Nat → D} (l : List Col) : stripFL g (l.map vr) = l.map vr := stripFL_map vr (fun _ => rfl) l
@[go_sem] theorem strip_slvr {g : Nat → Nat → Nat → Nat → D} (k : Nat) (s : Sl Col) : stripF g (sl k vr s) = sl k vr s := strip_sl k _ s fun _ => rfl
structure Src where
  name : Str
  al : Str
def encSrc (s : Src) : D := .agg [.str s.name, .str s.al]
@[go_sem] theorem strip_slSrc {g : Nat → Nat → Nat → Nat → D} (k : Nat) (s : Sl Src) : stripF g (sl k encSrc s) = sl k encSrc s := strip_sl k _ s fun _ => rfl
structure Bnd where
  src : Sl Src
  w : ExR
  tabs : Sl I64
  vars : Sl Col
def encBnd (b : Bnd) : D := .agg [.int .i64 5, .str [], .nil, .nil, .nil, .nil, .nil, .nil, .nil, sl 2 encSrc b.src, .int .i64 b.w.a.1, .str b.w.s, .str b.w.t, .int .i64 b.w.b.1, .int .i64 b.w.c.1, .int .i64 b.w.d.1, .str b.w.u, sl 8 encEx b.w.args, .nil, .nil, .int .i64 0, .str [], .int .i64 0, sl 1 I b.tabs, sl 5 vr b.vars, .nil]
@[go_sem] theorem encBnd_eq (b : Bnd) : encBnd b = .agg [.int .i64 5, .str [], .nil, .nil, .nil, .nil, .nil, .nil, .nil, sl 2 encSrc b.src, .int .i64 b.w.a.1, .str b.w.s, .str b.w.t, .int .i64 b.w.b.1, .int .i64 b.w.c.1, .int .i64 b.w.d.1, .str b.w.u, sl 8 encEx b.w.args, .nil, .nil, .int .i64 0, .str [], .int .i64 0, sl 1 I b.tabs, sl 5 vr b.vars, .nil] := rfl
/-- The widths of the sources. -/
structure WOK (s : List Tbl) (tabs : List I64) (W : List Nat) : Prop where
  len : W.length = tabs.length
  few : tabs.length ≤ 3
  src : ∀ (i : Nat) (v : I64), tabs[i]? = some v → ∃ t, atI s v.1 = some t ∧ W[i]? = some t.cols.items.length ∧ t.cols.items.length ≤ 20
def offW (W : List Nat) (k : Nat) : Nat := (W.take k).sum
theorem offW_succ {W : List Nat} {k w : Nat} (h : W[k]? = some w) : offW W (k + 1) = offW W k + w := by
  unfold offW; rw [List.take_add_one, h, List.sum_append]; simp
theorem WOK.at {s : List Tbl} {tabs : List I64} {W : List Nat} (h : WOK s tabs W) {i : Nat} (hi : i < tabs.length) : ∃ (v : I64) (t : Tbl) (w : Nat), tabs[i]? = some v ∧ atI s v.1 = some t ∧ W[i]? = some w ∧ t.cols.items.length = w ∧ w ≤ 20 := by
  obtain ⟨t, h1, h2, h3⟩ := h.src i tabs[i] (List.getElem?_eq_getElem hi)
  exact ⟨_, t, _, List.getElem?_eq_getElem hi, h1, h2, rfl, h3⟩
theorem WOK.off {s : List Tbl} {tabs : List I64} {W : List Nat} (h : WOK s tabs W) : ∀ k, k ≤ W.length → offW W k ≤ 20 * k
  | 0, _ => by simp [offW]
  | k + 1, hk => by
    obtain ⟨_, _, w, _, _, h3, _, h5⟩ := h.at (i := k) (by have := h.len; omega)
    rw [offW_succ h3]
    have := WOK.off h k (by omega)
    omega
theorem wrap_add (a b : Nat) (h : a + b < 4611686018427387904) : IntKind.i64.wrap ((a : Int) + (b : Int)) = ((a + b : Nat) : Int) := by
  rw [wrap_fit _ (by omega)]; omega
theorem off134 (s : Sl Tbl) (b : Bnd) (W : List Nat) (h : WOK s.items b.tabs.items W) (n : Nat) (hn : n ≤ W.length) : callP (XG G) TT 134 [sl 5 encTbl s, encBnd b, .int .i64 (n : Int)] = some (.int .i64 (offW W n : Nat)) := by
  refine callP_val T134 rfl (by simp only [go_sem]) ?_
  unfold Tryd.f134
  simp only [Option.getD_some]
  have hW := h.len
  have hf := h.few
  simp +decide only[go_sem,reduceAdd,reduceMul,reduceSub]
  refine gw trivial ?_
  refine wpI_loopC (T := Nat) [0, 2, 4, 7, 8] rfl (by simp +decide only[go_sem,reduceAdd,reduceMul,reduceSub]; exact rfl) (fun k => [(7, .int .i64 (offW W k : Nat)), (8, .int .i64 (k : Int))]) (fun _ => []) (fun _ => ⟨[], []⟩) (fun k => k ≤ n) (fun k => n - k) 0 (by simp +decide only[go_sem,reduceAdd,reduceMul,reduceSub] <;> rfl) (by simp) ?_
  rintro k hk
  by_cases h1 : k < n
  · obtain ⟨v, t, w, g1, g2, g3, g4, g5⟩ := h.at (i := k) (by omega)
    have hl : ((k : Int) < (n : Int)) = True := eq_true (by omega)
    have ho := h.off k (by omega)
    have hw := wrap_nat k (by omega)
    have ha := wrap_add (offW W k) w (by omega)
    rw [← offW_succ g3] at ha
    refine gw (an hl (an g1 (an g2 (an g4 (an ha hw))))) ?_
    exact ⟨k + 1, by simp +decide only[go_sem,reduceAdd,reduceMul,reduceSub] <;> rfl, by omega, by omega⟩
  · have hl : ((k : Int) < (n : Int)) = False := eq_false (by omega)
    obtain rfl : k = n := by omega
    refine gw hl ?_
    simp +decide only[go_sem,reduceAdd,reduceMul,reduceSub]
theorem has71 (l : Sl I64) (n : Int) : callP (XG G) TT 71 [sl 1 I l, .int .i64 n] = some (.bool (l.items.any fun x => x.1 == n)) := by
  refine callP_val T71 rfl (by simp only [go_sem]) ?_
  unfold Tryd.f71
  simp only [Option.getD_some]
  have hlt := l.lt
  simp +decide only[go_sem,reduceAdd,reduceMul,reduceSub]
  refine gw trivial ?_
  refine wpI_loopC (T := Nat) [0, 1, 5] rfl (by simp +decide only[go_sem,reduceAdd,reduceMul,reduceSub]; exact rfl) (fun k => [(5, .int .i64 (k : Int))]) (fun _ => []) (fun _ => ⟨[], []⟩) (fun k => k ≤ l.items.length ∧ (l.items.take k).any (fun x => x.1 == n) = false) (fun k => l.items.length - k) 0 (by simp +decide only[go_sem,reduceAdd,reduceMul,reduceSub] <;> rfl) (by simp) ?_
  rintro k ⟨hk, hQ⟩
  by_cases h1 : k < l.items.length
  · have l_x : ((k : Int) < ((l.items).length : Int)) = True := by simp; omega
    obtain ⟨x, g_x⟩ : ∃ a_, (l.items)[k]? = some a_ := ⟨_, List.getElem?_eq_getElem (by assumption)⟩
    have w_x := wrap_nat k (by omega)
    cases c : (x.1 == n)
    · refine gw (an l_x (an g_x (an w_x c))) ?_
      exact ⟨k + 1, by simp +decide only[go_sem,reduceAdd,reduceMul,reduceSub,l_x,g_x,w_x,c] <;> rfl, ⟨by omega, by rw [List.take_add_one, g_x, List.any_append, hQ]; simp [c]⟩, by omega⟩
    · refine gw (an l_x (an g_x (an w_x c))) ?_
      simp +decide only[go_sem,reduceAdd,reduceMul,reduceSub,l_x,g_x,w_x,c]
      rw [List.any_eq_true.2 ⟨x, List.mem_of_getElem? g_x, c⟩]
  · have l_e1 : ((k : Int) < ((l.items).length : Int)) = False := by simp; omega
    rw [List.take_of_length_le (by omega)] at hQ
    refine gw l_e1 ?_
    simp +decide only[go_sem,reduceAdd,reduceMul,reduceSub,l_e1]
    rw [hQ]
theorem has112 (l : Sl I64) (n : Int) : callP (XG G) TT 112 [sl 1 I l, .int .i64 n] = some (.bool (l.items.any fun x => x.1 == n)) := by
  refine callP_val T112 rfl (by simp only [go_sem]) ?_
  unfold Tryd.f112
  simp only [Option.getD_some]
  have hlt := l.lt
  simp +decide only[go_sem,reduceAdd,reduceMul,reduceSub]
  refine gw trivial ?_
  refine wpI_loopC (T := Nat) [0, 1, 5] rfl (by simp +decide only[go_sem,reduceAdd,reduceMul,reduceSub]; exact rfl) (fun k => [(5, .int .i64 (k : Int))]) (fun _ => []) (fun _ => ⟨[], []⟩) (fun k => k ≤ l.items.length ∧ (l.items.take k).any (fun x => x.1 == n) = false) (fun k => l.items.length - k) 0 (by simp +decide only[go_sem,reduceAdd,reduceMul,reduceSub] <;> rfl) (by simp) ?_
  rintro k ⟨hk, hQ⟩
  by_cases h1 : k < l.items.length
  · have l_x : ((k : Int) < ((l.items).length : Int)) = True := by simp; omega
    obtain ⟨x, g_x⟩ : ∃ a_, (l.items)[k]? = some a_ := ⟨_, List.getElem?_eq_getElem (by assumption)⟩
    have w_x := wrap_nat k (by omega)
    cases c : (x.1 == n)
    · refine gw (an l_x (an g_x (an w_x c))) ?_
      exact ⟨k + 1, by simp +decide only[go_sem,reduceAdd,reduceMul,reduceSub,l_x,g_x,w_x,c] <;> rfl, ⟨by omega, by rw [List.take_add_one, g_x, List.any_append, hQ]; simp [c]⟩, by omega⟩
    · refine gw (an l_x (an g_x (an w_x c))) ?_
      simp +decide only[go_sem,reduceAdd,reduceMul,reduceSub,l_x,g_x,w_x,c]
      rw [List.any_eq_true.2 ⟨x, List.mem_of_getElem? g_x, c⟩]
  · have l_e1 : ((k : Int) < ((l.items).length : Int)) = False := by simp; omega
    rw [List.take_of_length_le (by omega)] at hQ
    refine gw l_e1 ?_
    simp +decide only[go_sem,reduceAdd,reduceMul,reduceSub,l_e1]
    rw [hQ]
/-- The source of a variable. -/
def ownF (v : Int) : List Nat → Nat → Nat → Int
  | [], _, _ => -1
  | w :: r, i, f => bif decide ((f : Int) ≤ v) && decide (v < ((f + w : Nat) : Int)) then (i : Int) else ownF v r (i + 1) (f + w)
def ownW (W : List Nat) (v : Int) : Int := ownF v W 0 0
theorem own85 (s : Sl Tbl) (b : Bnd) (W : List Nat) (h : WOK s.items b.tabs.items W) (v : Int) : callP (XG G) TT 85 [sl 5 encTbl s, encBnd b, .int .i64 v] = some (.int .i64 (ownW W v)) := by
  refine callP_val T85 rfl (by simp only [go_sem]) ?_
  unfold Tryd.f85
  simp only [Option.getD_some]
  have hW := h.len
  have hf := h.few
  simp +decide only[go_sem,reduceAdd,reduceMul,reduceSub]
  refine gw trivial ?_
  refine wpI_loopC (T := Nat) [0, 2, 4, 7] rfl (by simp +decide only[go_sem,reduceAdd,reduceMul,reduceSub]; exact rfl) (fun k => [(7, .int .i64 (k : Int))]) (fun _ => []) (fun _ => ⟨[], []⟩) (fun k => k ≤ W.length ∧ ownF v (W.drop k) k (offW W k) = ownW W v) (fun k => W.length - k) 0 (by simp +decide only[go_sem,reduceAdd,reduceMul,reduceSub] <;> rfl) (by exact ⟨Nat.zero_le _, rfl⟩) ?_
  rintro k ⟨hk, hQ⟩
  by_cases h1 : k < b.tabs.items.length
  · obtain ⟨u, t, w, g1, g2, g3, g4, g5⟩ := h.at (i := k) (by omega)
    have hl : ((k : Int) < (b.tabs.items.length : Int)) = True := eq_true (by omega)
    have ho := h.off k (by omega)
    have hw := wrap_nat k (by omega)
    have ha := wrap_add (offW W k) w (by omega)
    have c1 := off134 (G := G) s b W h k (by omega)
    simp only [encBnd_eq] at c1
    rw [dropc g3, ownF] at hQ
    rw [← offW_succ g3] at ha hQ
    by_cases c2 : (offW W k : Int) ≤ v
    · rw [decide_eq_true c2, Bool.true_and] at hQ
      by_cases c3 : v < (offW W (k + 1) : Int)
      · rw [decide_eq_true c3, cond_true] at hQ
        refine gw (an hl (an g1 (an g2 (an g4 (an ha (an hw (an c1 (an c2 c3)))))))) ?_
        simp +decide only[go_sem,reduceAdd,reduceMul,reduceSub,hl,g1,g2,g4,ha,hw,c1]
        rw [← hQ]
      · rw [decide_eq_false c3, cond_false] at hQ
        refine gw (an hl (an g1 (an g2 (an g4 (an ha (an hw (an c1 (an c2 c3)))))))) ?_
        exact ⟨k + 1, by simp +decide only[go_sem,reduceAdd,reduceMul,reduceSub,hl,g1,g2,g4,ha,hw,c1] <;> rfl, ⟨by omega, hQ⟩, by omega⟩
    · rw [decide_eq_false c2, Bool.false_and, cond_false] at hQ
      refine gw (an hl (an g1 (an g2 (an g4 (an ha (an hw (an c1 c2))))))) ?_
      exact ⟨k + 1, by simp +decide only[go_sem,reduceAdd,reduceMul,reduceSub,hl,g1,g2,g4,ha,hw,c1] <;> rfl, ⟨by omega, hQ⟩, by omega⟩
  · have hl : ((k : Int) < (b.tabs.items.length : Int)) = False := eq_false (by omega)
    rw [List.drop_eq_nil_of_le (by omega), ownF] at hQ
    refine gw hl ?_
    simp +decide only[go_sem,reduceAdd,reduceMul,reduceSub]
    rw [← hQ]
end Go.Eng
/- Expressions in bound statements: how deep they are, what they consist of. -/
namespace Go.Eng
open Go Go.Proofs
open Nat (reduceAdd reduceMul reduceSub)
set_option maxRecDepth 20000
set_option maxHeartbeats 32000000
variable {G : Nat → Option (List D)}
/-- A list that grows from an empty one. -/
def accE (k : Nat) (l : List D) : D := match l with | [] => .slice (some 0) k [] | _ :: _ => .slice (some 1) k l
@[go_sem] theorem elems_accE (m : Mem) (k : Nat) (l : List D) : elemsOf m k (accE k l) = some l := by
  cases l with
  | nil => simp [accE, elemsOf]
  | cons a r => simp [accE, elemsOf]
theorem app_E (k : Nat) (l xs : List D) : appendD k ⟨[], accT l⟩ (accE k l) xs = some (accE k (l ++ xs), ⟨[], accT (l ++ xs)⟩) := by
  cases xs with
  | nil => simp [appendD]
  | cons x xs => cases l <;> simp [accE, accT, appendD]
theorem app_D (k : Nat) (l xs : List D) : appendD k ⟨[], accT l⟩ (accD k l) xs = some (accD k (l ++ xs), ⟨[], accT (l ++ xs)⟩) := by
  cases xs with
  | nil => simp [appendD]
  | cons x xs => exact app_acc k l x xs
theorem strip_accE {g : Nat → Nat → Nat → Nat → D} {k : Nat} {l : List D} (h : stripFL g l = l) : stripF g (accE k l) = .slice none k l := by
  cases l <;> simp only [accE, stripF_slice, h]
/-- A condition whose AND operators have two operands, of some depth. -/
inductive BinN : Nat → D → Prop
  | mk (n : Nat) (r : ExR) (h2 : r.args.items.length ≤ 2) (hA : r.a.1 = 18 → r.args.items.length = 2) (k : ∀ x ∈ r.args.items, BinN n (encEx x)) : BinN (n + 1) r.enc
theorem BinN.open {n : Nat} {d : D} (h : BinN n d) : ∃ (m : Nat) (r : ExR), n = m + 1 ∧ d = r.enc ∧ r.args.items.length ≤ 2 ∧ (r.a.1 = 18 → r.args.items.length = 2) ∧ ∀ x ∈ r.args.items, BinN m (encEx x) := by
  cases h with
  | mk n r h2 hA k => exact ⟨n, r, rfl, rfl, h2, hA, k⟩
theorem dep0 (n : Nat) : (((n + 1 : Nat) : Int) == 0) = false := by simp; omega
theorem dep1 (n : Nat) (h : n ≤ 100) : IntKind.i64.wrap (((n + 1 : Nat) : Int) - 1) = (n : Int) := by
  rw [wrap_fit _ (by omega)]; omega
theorem small84 : ∀ (n : Nat) (r : ExR), n ≤ 100 → ∃ b, callP (XG G) TT 84 [r.enc, .int .i64 (n : Int)] = some (.bool b) ∧ (b = true → 1 ≤ n ∧ r.args.items.length ≤ 2) := by
  intro n
  induction n with
  | zero =>
    intro r _
    refine ⟨false, ?_, fun h => by cases h⟩
    refine callP_val T84 rfl (by simp only [go_sem, strip_ExR]) ?_
    unfold Tryd.f84
    simp only [Option.getD_some]
    have h0 : (((0 : Nat) : Int) == 0) = true := rfl
    simp +decide only[go_sem,reduceAdd,reduceMul,reduceSub]
    refine gw h0 ?_
    simp +decide only[go_sem,reduceAdd,reduceMul,reduceSub]
  | succ n ih =>
    intro r hn
    suffices h : ∃ v, callP (XG G) TT 84 [r.enc, .int .i64 ((n + 1 : Nat) : Int)] = some v ∧ ∃ b, v = .bool b ∧ (b = true → 1 ≤ n + 1 ∧ r.args.items.length ≤ 2) by
      obtain ⟨v, h1, b, rfl, h2⟩ := h; exact ⟨b, h1, h2⟩
    refine callP_body T84 rfl (by simp only [go_sem, strip_ExR]) ?_
    unfold Tryd.f84
    simp only [Option.getD_some]
    have h0 := dep0 n
    have h1 := dep1 n (by omega)
    have hlt := r.args.lt
    simp +decide only[go_sem,reduceAdd,reduceMul,reduceSub,h0,h1]
    refine gw (an h0 h1) ?_
    by_cases h2 : (2 : Int) < (r.args.items.length : Int)
    · refine gw (an h0 (an h1 h2)) ?_
      simp +decide only[go_sem,reduceAdd,reduceMul,reduceSub,h0,h1,h2]
      exact ⟨_, rfl, fun h => by cases h⟩
    have hw : ∃ b, decide (100 < IntKind.i64.wrap (IntKind.i64.wrap ((r.t.length : Int) + (r.s.length : Int)) + (r.u.length : Int))) = b := ⟨_, rfl⟩
    obtain ⟨b, hw⟩ := hw
    cases b
    · refine gw (an h0 (an h1 (an h2 hw))) ?_
      refine wpI_loopC (T := Nat) [1, 2, 5] rfl (by simp +decide only[go_sem,reduceAdd,reduceMul,reduceSub,h0,h1,h2,hw]; exact rfl) (fun k => [(5, .int .i64 (k : Int))]) (fun _ => []) (fun _ => ⟨[], []⟩) (fun k => k ≤ r.args.items.length) (fun k => r.args.items.length - k) 0 (by simp +decide only[go_sem,reduceAdd,reduceMul,reduceSub,h0,h1,h2,hw] <;> rfl) (by simp) ?_
      rintro k hk
      by_cases h : k < r.args.items.length
      · have l_x : ((k : Int) < ((r.args.items).length : Int)) = True := by simp; omega
        obtain ⟨x, g_x⟩ : ∃ a_, (r.args.items)[k]? = some a_ := ⟨_, List.getElem?_eq_getElem (by assumption)⟩
        have w_x := wrap_nat k (by omega)
        obtain ⟨rx, hx, _⟩ := x.open
        obtain ⟨b, hb, _⟩ := ih rx (by omega)
        rw [← hx] at hb
        cases b
        · refine gw (an h0 (an h1 (an h2 (an hw (an l_x (an g_x (an w_x hb))))))) ?_
          simp +decide only[go_sem,reduceAdd,reduceMul,reduceSub,h0,h1,h2,hw,l_x,g_x,w_x,hb]
          exact ⟨_, rfl, fun h => by cases h⟩
        · refine gw (an h0 (an h1 (an h2 (an hw (an l_x (an g_x (an w_x hb))))))) ?_
          exact ⟨k + 1, by simp +decide only[go_sem,reduceAdd,reduceMul,reduceSub,h0,h1,h2,hw,l_x,g_x,w_x,hb] <;> rfl, by omega, by omega⟩
      · have l_e1 : ((k : Int) < ((r.args.items).length : Int)) = False := by simp; omega
        refine gw (an h0 (an h1 (an h2 (an hw l_e1)))) ?_
        simp +decide only[go_sem,reduceAdd,reduceMul,reduceSub,h0,h1,h2,hw,l_e1]
        exact ⟨_, rfl, fun _ => ⟨by omega, by omega⟩⟩
    · refine gw (an h0 (an h1 (an h2 hw))) ?_
      simp +decide only[go_sem,reduceAdd,reduceMul,reduceSub,h0,h1,h2,hw]
      exact ⟨_, rfl, fun h => by cases h⟩
theorem take_bin {n : Nat} {l : List Ex} {k : Nat} {x : Ex} (h : ∀ y ∈ l.take k, BinN n (encEx y)) (g : l[k]? = some x) (hx : BinN n (encEx x)) : ∀ y ∈ l.take (k + 1), BinN n (encEx y) := by
  intro y hy
  rw [List.take_add_one, g] at hy
  rcases List.mem_append.1 hy with hy | hy
  · exact h y hy
  · have hy : y = x := by simpa using hy
    subst hy; exact hx
theorem binary42 : ∀ (n : Nat) (r : ExR), n ≤ 100 → ∃ b, callP (XG G) TT 42 [r.enc, .int .i64 (n : Int)] = some (.bool b) ∧ (b = true → BinN n r.enc) := by
  intro n
  induction n with
  | zero =>
    intro r _
    refine ⟨false, ?_, fun h => by cases h⟩
    refine callP_val T42 rfl (by simp only [go_sem, strip_ExR]) ?_
    unfold Tryd.f42
    simp only [Option.getD_some]
    obtain ⟨b, hb, h1⟩ := small84 (G := G) 0 r (by omega)
    simp only [ExR_eq] at hb
    cases b with
    | true => exact absurd (h1 rfl).1 (by omega)
    | false =>
      simp +decide only[go_sem,reduceAdd,reduceMul,reduceSub]
      refine gw hb ?_
      simp +decide only[go_sem,reduceAdd,reduceMul,reduceSub]
  | succ n ih =>
    intro r hn
    suffices h : ∃ v, callP (XG G) TT 42 [r.enc, .int .i64 ((n + 1 : Nat) : Int)] = some v ∧ ∃ b, v = .bool b ∧ (b = true → BinN (n + 1) r.enc) by
      obtain ⟨v, h1, b, rfl, h2⟩ := h; exact ⟨b, h1, h2⟩
    refine callP_body T42 rfl (by simp only [go_sem, strip_ExR]) ?_
    unfold Tryd.f42
    simp only [Option.getD_some]
    have h1 := dep1 n (by omega)
    have hlt := r.args.lt
    obtain ⟨b, hb, hs⟩ := small84 (G := G) (n + 1) r (by omega)
    simp only [ExR_eq] at hb
    simp +decide only[go_sem,reduceAdd,reduceMul,reduceSub,h1,hb]
    refine gw (an h1 hb) ?_
    cases b with
    | false =>
      refine gw (an h1 hb) ?_
      simp +decide only[go_sem,reduceAdd,reduceMul,reduceSub,h1,hb]
      exact ⟨_, rfl, fun h => by cases h⟩
    | true =>
    obtain ⟨_, hs⟩ := hs rfl
    cases h18 : (r.a.1 == 18)
    · refine gw (an h1 (an hb h18)) ?_
      refine wpI_loopC (T := Nat) [1, 2, 5] rfl (by simp +decide only[go_sem,reduceAdd,reduceMul,reduceSub,h1,hb,h18]; exact rfl) (fun k => [(5, .int .i64 (k : Int))]) (fun _ => []) (fun _ => ⟨[], []⟩) (fun k => k ≤ r.args.items.length ∧ ∀ y ∈ r.args.items.take k, BinN n (encEx y)) (fun k => r.args.items.length - k) 0 (by simp +decide only[go_sem,reduceAdd,reduceMul,reduceSub,h1,hb,h18] <;> rfl) (by simp) ?_
      rintro k ⟨hk, hP⟩
      by_cases h : k < r.args.items.length
      · have l_x : ((k : Int) < ((r.args.items).length : Int)) = True := by simp; omega
        obtain ⟨x, g_x⟩ : ∃ a_, (r.args.items)[k]? = some a_ := ⟨_, List.getElem?_eq_getElem (by assumption)⟩
        have w_x := wrap_nat k (by omega)
        obtain ⟨rx, hx, _⟩ := x.open
        obtain ⟨b, hb, hbx⟩ := ih rx (by omega)
        rw [← hx] at hb hbx
        cases b
        · refine gw (an h1 (an hb (an h18 (an l_x (an g_x (an w_x hb)))))) ?_
          simp +decide only[go_sem,reduceAdd,reduceMul,reduceSub,h1,hb,h18,l_x,g_x,w_x,hb]
          exact ⟨_, rfl, fun h => by cases h⟩
        · refine gw (an h1 (an hb (an h18 (an l_x (an g_x (an w_x hb)))))) ?_
          exact ⟨k + 1, by simp +decide only[go_sem,reduceAdd,reduceMul,reduceSub,h1,hb,h18,l_x,g_x,w_x,hb] <;> rfl, ⟨by omega, take_bin hP g_x (hbx rfl)⟩, by omega⟩
      · have l_e1 : ((k : Int) < ((r.args.items).length : Int)) = False := by simp; omega
        rw [List.take_of_length_le (by omega)] at hP
        refine gw (an h1 (an hb (an h18 l_e1))) ?_
        simp +decide only[go_sem,reduceAdd,reduceMul,reduceSub,h1,hb,h18,l_e1]
        exact ⟨_, rfl, fun _ => .mk n r hs (fun e => by rw [e] at h18; cases h18) hP⟩
    · cases h2 : ((r.args.items.length : Int) != 2)
      · refine gw (an h1 (an hb (an h18 h2))) ?_
        refine wpI_loopC (T := Nat) [1, 2, 5] rfl (by simp +decide only[go_sem,reduceAdd,reduceMul,reduceSub,h1,hb,h18,h2]; exact rfl) (fun k => [(5, .int .i64 (k : Int))]) (fun _ => []) (fun _ => ⟨[], []⟩) (fun k => k ≤ r.args.items.length ∧ ∀ y ∈ r.args.items.take k, BinN n (encEx y)) (fun k => r.args.items.length - k) 0 (by simp +decide only[go_sem,reduceAdd,reduceMul,reduceSub,h1,hb,h18,h2] <;> rfl) (by simp) ?_
        rintro k ⟨hk, hP⟩
        by_cases h : k < r.args.items.length
        · have l_x : ((k : Int) < ((r.args.items).length : Int)) = True := by simp; omega
          obtain ⟨x, g_x⟩ : ∃ a_, (r.args.items)[k]? = some a_ := ⟨_, List.getElem?_eq_getElem (by assumption)⟩
          have w_x := wrap_nat k (by omega)
          obtain ⟨rx, hx, _⟩ := x.open
          obtain ⟨b, hb, hbx⟩ := ih rx (by omega)
          rw [← hx] at hb hbx
          cases b
          · refine gw (an h1 (an hb (an h18 (an h2 (an l_x (an g_x (an w_x hb))))))) ?_
            simp +decide only[go_sem,reduceAdd,reduceMul,reduceSub,h1,hb,h18,h2,l_x,g_x,w_x,hb]
            exact ⟨_, rfl, fun h => by cases h⟩
          · refine gw (an h1 (an hb (an h18 (an h2 (an l_x (an g_x (an w_x hb))))))) ?_
            exact ⟨k + 1, by simp +decide only[go_sem,reduceAdd,reduceMul,reduceSub,h1,hb,h18,h2,l_x,g_x,w_x,hb] <;> rfl, ⟨by omega, take_bin hP g_x (hbx rfl)⟩, by omega⟩
        · have l_e1 : ((k : Int) < ((r.args.items).length : Int)) = False := by simp; omega
          rw [List.take_of_length_le (by omega)] at hP
          refine gw (an h1 (an hb (an h18 (an h2 l_e1)))) ?_
          simp +decide only[go_sem,reduceAdd,reduceMul,reduceSub,h1,hb,h18,h2,l_e1]
          exact ⟨_, rfl, fun _ => .mk n r hs (fun _ => by simp at h2; omega) hP⟩
      · refine gw (an h1 (an hb (an h18 h2))) ?_
        simp +decide only[go_sem,reduceAdd,reduceMul,reduceSub,h1,hb,h18,h2]
        exact ⟨_, rfl, fun h => by cases h⟩
/-- The conjuncts. -/
inductive CjL : D → List Ex → Prop
  | none (r : ExR) (h : r.a.1 = 0) : CjL r.enc []
  | one (e : Ex) (r : ExR) (he : encEx e = r.enc) (h0 : r.a.1 ≠ 0) (h1 : r.a.1 ≠ 18) : CjL (encEx e) [e]
  | and (r : ExR) (x y : Ex) (h : r.a.1 = 18) (hx : r.args.items = [x, y]) (A B : List Ex) (ha : CjL (encEx x) A) (hb : CjL (encEx y) B) : CjL r.enc (A ++ B)
theorem two_of {α : Type} : ∀ {l : List α}, l.length = 2 → ∃ x y, l = [x, y]
  | [x, y], _ => ⟨x, y, rfl⟩
theorem cj_ex : ∀ (n : Nat) (e : Ex), BinN n (encEx e) → ∃ L, CjL (encEx e) L ∧ L.length ≤ 2 ^ n := by
  intro n
  induction n with
  | zero => intro e h; obtain ⟨m, r, h1, _⟩ := h.open; omega
  | succ n ih =>
    intro e h
    obtain ⟨m, r, h1, he, h2, hA, hk⟩ := h.open
    obtain rfl : m = n := by omega
    by_cases h0 : r.a.1 = 0
    · exact ⟨[], he ▸ .none r h0, Nat.zero_le _⟩
    by_cases h18 : r.a.1 = 18
    · obtain ⟨x, y, hxy⟩ := two_of (hA h18)
      obtain ⟨A, hA1, hA2⟩ := ih x (hk x (by rw [hxy]; simp))
      obtain ⟨B, hB1, hB2⟩ := ih y (hk y (by rw [hxy]; simp))
      refine ⟨A ++ B, he ▸ .and r x y h18 hxy A B hA1 hB1, ?_⟩
      rw [List.length_append, Nat.pow_succ]; omega
    · exact ⟨[e], .one e r he h0 h18, Nat.one_le_two_pow⟩
theorem conj46 {d : D} {L : List Ex} (h : CjL d L) : L.length ≤ 100000 → ∃ s : Sl Ex, callP (XG G) TT 46 [d] = some (sl 8 encEx s) ∧ s.items = L := by
  induction h with
  | none r h =>
    intro _
    refine ⟨⟨none, by simp⟩, ?_, rfl⟩
    refine callP_val T46 rfl (by simp only [go_sem, strip_ExR]) ?_
    unfold Tryd.f46
    simp only [Option.getD_some]
    have h0 : (r.a.1 == 0) = true := by simp [h]
    simp +decide only[go_sem,reduceAdd,reduceMul,reduceSub]
    refine gw h0 ?_
    simp +decide only[go_sem,reduceAdd,reduceMul,reduceSub]
    rfl
  | one e r he h0 h1 =>
    intro _
    refine ⟨⟨some [e], by simp⟩, ?_, rfl⟩
    rw [he]
    refine callP_val T46 rfl (by simp only [go_sem, strip_ExR]) ?_
    unfold Tryd.f46
    simp only [Option.getD_some]
    have h0 : (r.a.1 == 0) = false := by simp [h0]
    have h1 : (r.a.1 != 18) = true := by simp [h1]
    simp +decide only[go_sem,reduceAdd,reduceMul,reduceSub]
    refine gw (an h0 h1) ?_
    simp +decide only[go_sem,reduceAdd,reduceMul,reduceSub]
    simp only [sl, List.map_cons, List.map_nil, he, ExR_eq]
  | and r x y h hx A B ha hb iha ihb =>
    intro hl
    rw [List.length_append] at hl
    obtain ⟨s, h1, hs⟩ := iha (by omega)
    obtain ⟨t, h2, ht⟩ := ihb (by omega)
    refine ⟨⟨some (A ++ B), by simp; omega⟩, ?_, rfl⟩
    refine callP_val T46 rfl (by simp only [go_sem, strip_ExR]) ?_
    unfold Tryd.f46
    simp only [Option.getD_some]
    have e0 : (r.a.1 == 0) = false := by simp [h]
    have e1 : (r.a.1 != 18) = false := by simp [h]
    have g0 : r.args.items[0]? = some x := by rw [hx]; rfl
    have g1 : r.args.items[1]? = some y := by rw [hx]; rfl
    have a0 : atI r.args.items 0 = some x := g0
    have a1 : atI r.args.items 1 = some y := g1
    have p1 : appendD 8 ⟨[], []⟩ (.slice (some 0) 8 []) (A.map encEx) = some (accE 8 (A.map encEx), ⟨[], accT (A.map encEx)⟩) := app_E 8 [] _
    have p2 := app_E 8 (A.map encEx) (B.map encEx)
    have l1 : (A.length ≤ 16777216) = True := eq_true (by omega)
    have l2 : (A.length + B.length ≤ 16777216) = True := eq_true (by omega)
    simp +decide only[go_sem,reduceAdd,reduceMul,reduceSub]
    repeat (first|(with_reducible first|refine q1 ?_|refine q2 ?_|refine q3 ?_|refine q4 ?_|refine q5 ?_|refine q6 ?_|refine q7 ?_|refine q8 ?_|refine q9 ?_|refine q10 ?_|refine q11 ?_|refine q12 (by decide) ?_)|((first|with_reducible refine q13 ?_|((with_reducible refine q14 ?_ ?_);focus exact rfl));intro K hK;simp +decide only[go_sem,reduceAdd,reduceMul,reduceSub,e0,e1,a0,a1,h1,h2,hs,ht,p1,p2,List.length_map,l1,l2];with_reducible refine hK _ ?_;clear hK K)|(with_reducible refine q15 ?_;intro K J hK hJ;simp +decide only[go_sem,reduceAdd,reduceMul,reduceSub,e0,e1,a0,a1,h1,h2,hs,ht,p1,p2,List.length_map,l1,l2];(with_reducible first|refine hK ?_|refine hJ ?_);clear hK hJ K J))
    simp +decide only[go_sem,reduceAdd,reduceMul,reduceSub]
    rw [strip_accE (by rw [← List.map_append]; exact stripFL_map encEx (fun z => strip_Ex z) _)]
    simp only [sl, List.map_append]
theorem conj90 {d : D} {L : List Ex} (h : CjL d L) : L.length ≤ 100000 → ∃ s : Sl Ex, callP (XG G) TT 90 [d] = some (sl 8 encEx s) ∧ s.items = L := by
  induction h with
  | none r h =>
    intro _
    refine ⟨⟨none, by simp⟩, ?_, rfl⟩
    refine callP_val T90 rfl (by simp only [go_sem, strip_ExR]) ?_
    unfold Tryd.f90
    simp only [Option.getD_some]
    have h0 : (r.a.1 == 0) = true := by simp [h]
    simp +decide only[go_sem,reduceAdd,reduceMul,reduceSub]
    refine gw h0 ?_
    simp +decide only[go_sem,reduceAdd,reduceMul,reduceSub]
    rfl
  | one e r he h0 h1 =>
    intro _
    refine ⟨⟨some [e], by simp⟩, ?_, rfl⟩
    rw [he]
    refine callP_val T90 rfl (by simp only [go_sem, strip_ExR]) ?_
    unfold Tryd.f90
    simp only [Option.getD_some]
    have h0 : (r.a.1 == 0) = false := by simp [h0]
    have h1 : (r.a.1 == 18) = false := by simp [h1]
    simp +decide only[go_sem,reduceAdd,reduceMul,reduceSub]
    refine gw (an h0 h1) ?_
    simp +decide only[go_sem,reduceAdd,reduceMul,reduceSub]
    simp only [sl, List.map_cons, List.map_nil, he, ExR_eq]
  | and r x y h hx A B ha hb iha ihb =>
    intro hl
    rw [List.length_append] at hl
    obtain ⟨s, h1, hs⟩ := iha (by omega)
    obtain ⟨t, h2, ht⟩ := ihb (by omega)
    refine ⟨cn (A ++ B), ?_, cn_items (by rw [List.length_append]; omega)⟩
    rw [← out_cn 8 encEx (by rw [List.length_append]; omega)]
    refine callP_val T90 rfl (by simp only [go_sem, strip_ExR]) ?_
    unfold Tryd.f90
    simp only [Option.getD_some]
    have e0 : (r.a.1 == 0) = false := by simp [h]
    have e1 : (r.a.1 == 18) = true := by simp [h]
    have g2 : r.args.items.length = 2 := by rw [hx]; rfl
    have l1 : (A.length ≤ 16777216) = True := eq_true (by omega)
    have l2 : (A.length + B.length ≤ 16777216) = True := eq_true (by omega)
    obtain ⟨rx, ex, _⟩ := x.open
    obtain ⟨ry, ey, _⟩ := y.open
    rw [ex] at h1
    rw [ey] at h2
    simp only [ExR_eq] at h1 h2
    simp +decide only[go_sem,reduceAdd,reduceMul,reduceSub,e0,e1,g2,h1,h2,hs,ht,ex,ey,List.length_map,l1,l2]
    repeat (first|(with_reducible first|refine q1 ?_|refine q2 ?_|refine q3 ?_|refine q4 ?_|refine q5 ?_|refine q6 ?_|refine q7 ?_|refine q8 ?_|refine q9 ?_|refine q10 ?_|refine q11 ?_|refine q12 (by decide) ?_)|((first|with_reducible refine q13 ?_|((with_reducible refine q14 ?_ ?_);focus exact rfl));intro K hK;simp +decide only[go_sem,reduceAdd,reduceMul,reduceSub,e0,e1,g2,h1,h2,hs,ht,ex,ey,List.length_map,l1,l2];with_reducible refine hK _ ?_;clear hK K)|(with_reducible refine q15 ?_;intro K J hK hJ;simp +decide only[go_sem,reduceAdd,reduceMul,reduceSub,e0,e1,g2,h1,h2,hs,ht,ex,ey,List.length_map,l1,l2];(with_reducible first|refine hK ?_|refine hJ ?_);clear hK hJ K J))
    refine wpI_loopC (T := Nat) [3, 13, 14, 15] rfl (by simp +decide only[go_sem,reduceAdd,reduceMul,reduceSub,e0,e1,g2,h1,h2,hs,ht,ex,ey,List.length_map,l1,l2]; exact rfl) (fun k => [(15, .int .i64 (k : Int)), (3, accD 8 ((match k with | 0 => [] | 1 => A | _ => A ++ B).map encEx))]) (fun _ => []) (fun k => ⟨[], accT ((match k with | 0 => [] | 1 => A | _ => A ++ B).map encEx)⟩) (fun k => k ≤ 2) (fun k => 2 - k) 0 (by simp +decide only[go_sem,reduceAdd,reduceMul,reduceSub,e0,e1,g2,h1,h2,hs,ht,ex,ey,List.length_map,l1,l2] <;> rfl) (by simp) ?_
    rintro k hk
    have p1 := app_D 8 [] (A.map encEx)
    have p2 := app_D 8 (A.map encEx) (B.map encEx)
    obtain rfl | rfl | rfl : k = 0 ∨ k = 1 ∨ k = 2 := by omega
    · have a0 : atI r.args.items ((0 : Nat) : Int) = some x := by rw [hx]; rfl
      have lq : (((0 : Nat) : Int) < ((2 : Nat) : Int)) = True := eq_true (by omega)
      have w1 := wrap_nat 0 (by omega)
      repeat (first|(with_reducible first|refine q1 ?_|refine q2 ?_|refine q3 ?_|refine q4 ?_|refine q5 ?_|refine q6 ?_|refine q7 ?_|refine q8 ?_|refine q9 ?_|refine q10 ?_|refine q11 ?_|refine q12 (by decide) ?_)|((first|with_reducible refine q13 ?_|((with_reducible refine q14 ?_ ?_);focus exact rfl));intro K hK;simp +decide only[go_sem,reduceAdd,reduceMul,reduceSub,e0,e1,g2,h1,h2,hs,ht,ex,ey,List.length_map,l1,l2,a0,lq,w1,p1,List.map_nil,List.nil_append];with_reducible refine hK _ ?_;clear hK K)|(with_reducible refine q15 ?_;intro K J hK hJ;simp +decide only[go_sem,reduceAdd,reduceMul,reduceSub,e0,e1,g2,h1,h2,hs,ht,ex,ey,List.length_map,l1,l2,a0,lq,w1,p1,List.map_nil,List.nil_append];(with_reducible first|refine hK ?_|refine hJ ?_);clear hK hJ K J))
      exact ⟨1, by simp +decide only[go_sem,reduceAdd,reduceMul,reduceSub,e0,e1,g2,h1,h2,hs,ht,ex,ey,List.length_map,l1,l2] <;> rfl, by omega, by omega⟩
    · have a1 : atI r.args.items ((1 : Nat) : Int) = some y := by rw [hx]; rfl
      have lq : (((1 : Nat) : Int) < ((2 : Nat) : Int)) = True := eq_true (by omega)
      have w1 := wrap_nat 1 (by omega)
      repeat (first|(with_reducible first|refine q1 ?_|refine q2 ?_|refine q3 ?_|refine q4 ?_|refine q5 ?_|refine q6 ?_|refine q7 ?_|refine q8 ?_|refine q9 ?_|refine q10 ?_|refine q11 ?_|refine q12 (by decide) ?_)|((first|with_reducible refine q13 ?_|((with_reducible refine q14 ?_ ?_);focus exact rfl));intro K hK;simp +decide only[go_sem,reduceAdd,reduceMul,reduceSub,e0,e1,g2,h1,h2,hs,ht,ex,ey,List.length_map,l1,l2,a1,lq,w1,p2];with_reducible refine hK _ ?_;clear hK K)|(with_reducible refine q15 ?_;intro K J hK hJ;simp +decide only[go_sem,reduceAdd,reduceMul,reduceSub,e0,e1,g2,h1,h2,hs,ht,ex,ey,List.length_map,l1,l2,a1,lq,w1,p2];(with_reducible first|refine hK ?_|refine hJ ?_);clear hK hJ K J))
      exact ⟨2, by simp +decide only[go_sem,reduceAdd,reduceMul,reduceSub,e0,e1,g2,h1,h2,hs,ht,ex,ey,List.length_map,l1,l2,List.map_append] <;> rfl, by omega, by omega⟩
    · have lq : (((2 : Nat) : Int) < ((2 : Nat) : Int)) = False := eq_false (by omega)
      repeat (first|(with_reducible first|refine q1 ?_|refine q2 ?_|refine q3 ?_|refine q4 ?_|refine q5 ?_|refine q6 ?_|refine q7 ?_|refine q8 ?_|refine q9 ?_|refine q10 ?_|refine q11 ?_|refine q12 (by decide) ?_)|((first|with_reducible refine q13 ?_|((with_reducible refine q14 ?_ ?_);focus exact rfl));intro K hK;simp +decide only[go_sem,reduceAdd,reduceMul,reduceSub,e0,e1,g2,h1,h2,hs,ht,ex,ey,List.length_map,l1,l2,lq];with_reducible refine hK _ ?_;clear hK K)|(with_reducible refine q15 ?_;intro K J hK hJ;simp +decide only[go_sem,reduceAdd,reduceMul,reduceSub,e0,e1,g2,h1,h2,hs,ht,ex,ey,List.length_map,l1,l2,lq];(with_reducible first|refine hK ?_|refine hJ ?_);clear hK hJ K J))
      simp +decide only[go_sem,reduceAdd,reduceMul,reduceSub,e0,e1,g2,h1,h2,hs,ht,ex,ey,List.length_map,l1,l2]
      exact strip_acc (stripFL_map encEx (fun z => strip_Ex z) _)
end Go.Eng
