/- A part of the proof: see the last text. -/
import Derived.Test.YtcfmjomniaopcaaDoorKR2Few
import Derived.Test.YtcfmjomniaopcaaDoorKEngA2
import Derived.Test.YtcfmjomniaopcaaDoorKEngU
import Derived.Test.YtcfmjomniaopcaaDoorR2Eqs
set_option linter.unusedSimpArgs false
set_option linter.unusedVariables false
/- Bound statements: the data, and what is asked of the sources. -/
namespace Go.Eng
open Go Go.Proofs
open Nat (reduceAdd reduceMul reduceSub)
set_option maxRecDepth 20000
set_option maxHeartbeats 32000000
variable {G : Nat → Option (List D)}
def vr (c : Col) : D := .agg [.int .i64 c.a.1, .int .i64 c.b.1, .int .i64 c.c.1, .int .i64 c.d.1, .bool (!c.e)]
theorem strip_vrs {g : Nat → Nat → Nat → Nat → D} (l : List Col) : stripFL g (l.map vr) = l.map vr := stripFL_map vr (fun _ => rfl) l
@[go_sem] theorem strip_slvr {g : Nat → Nat → Nat → Nat → D} (k : Nat) (s : Sl Col) : stripF g (sl k vr s) = sl k vr s := strip_sl k _ s fun _ => rfl
structure Src where
  name : Str
  al : Str
def encSrc (s : Src) : D := .agg [.str s.name, .str s.al]
@[go_sem] theorem strip_slSrc {g : Nat → Nat → Nat → Nat → D} (k : Nat) (s : Sl Src) : stripF g (sl k encSrc s) = sl k encSrc s := strip_sl k _ s fun _ => rfl
structure Bnd where
  src : Sl Src
  w : ExR
  tabs : Sl I64
  vars : Sl Col
def encBnd (b : Bnd) : D := .agg [.int .i64 5, .str [], .nil, .nil, .nil, .nil, .nil, .nil, .nil, sl 2 encSrc b.src, .int .i64 b.w.a.1, .str b.w.s, .str b.w.t, .int .i64 b.w.b.1, .int .i64 b.w.c.1, .int .i64 b.w.d.1, .str b.w.u, sl 8 encEx b.w.args, .nil, .nil, .int .i64 0, .str [], .int .i64 0, sl 1 I b.tabs, sl 5 vr b.vars, .nil]
@[go_sem] theorem encBnd_eq (b : Bnd) : encBnd b = .agg [.int .i64 5, .str [], .nil, .nil, .nil, .nil, .nil, .nil, .nil, sl 2 encSrc b.src, .int .i64 b.w.a.1, .str b.w.s, .str b.w.t, .int .i64 b.w.b.1, .int .i64 b.w.c.1, .int .i64 b.w.d.1, .str b.w.u, sl 8 encEx b.w.args, .nil, .nil, .int .i64 0, .str [], .int .i64 0, sl 1 I b.tabs, sl 5 vr b.vars, .nil] := rfl
/-- The widths of the sources. -/
structure WOK (s : List Tbl) (tabs : List I64) (W : List Nat) : Prop where
  len : W.length = tabs.length
  few : tabs.length ≤ 3
  src : ∀ (i : Nat) (v : I64), tabs[i]? = some v → ∃ t, atI s v.1 = some t ∧ W[i]? = some t.cols.items.length ∧ t.cols.items.length ≤ 20
def offW (W : List Nat) (k : Nat) : Nat := (W.take k).sum
theorem offW_succ {W : List Nat} {k w : Nat} (h : W[k]? = some w) : offW W (k + 1) = offW W k + w := by
  unfold offW; rw [List.take_add_one, h, List.sum_append]; simp
theorem WOK.at {s : List Tbl} {tabs : List I64} {W : List Nat} (h : WOK s tabs W) {i : Nat} (hi : i < tabs.length) : ∃ (v : I64) (t : Tbl) (w : Nat), tabs[i]? = some v ∧ atI s v.1 = some t ∧ W[i]? = some w ∧ t.cols.items.length = w ∧ w ≤ 20 := by
  obtain ⟨t, h1, h2, h3⟩ := h.src i tabs[i] (List.getElem?_eq_getElem hi)
  exact ⟨_, t, _, List.getElem?_eq_getElem hi, h1, h2, rfl, h3⟩
theorem WOK.off {s : List Tbl} {tabs : List I64} {W : List Nat} (h : WOK s tabs W) : ∀ k, k ≤ W.length → offW W k ≤ 20 * k
  | 0, _ => by simp [offW]
  | k + 1, hk => by
    obtain ⟨_, _, w, _, _, h3, _, h5⟩ := h.at (i := k) (by have := h.len; omega)
    rw [offW_succ h3]
    have := WOK.off h k (by omega)
    omega
theorem wrap_add (a b : Nat) (h : a + b < 4611686018427387904) : IntKind.i64.wrap ((a : Int) + (b : Int)) = ((a + b : Nat) : Int) := by
  rw [wrap_fit _ (by omega)]; omega
theorem off134 (s : Sl Tbl) (b : Bnd) (W : List Nat) (h : WOK s.items b.tabs.items W) (n : Nat) (hn : n ≤ W.length) : callP (XG G) TT 134 [sl 5 encTbl s, encBnd b, .int .i64 (n : Int)] = some (.int .i64 (offW W n : Nat)) := by
  refine callP_val T134 rfl (by simp only [go_sem]) ?_
  unfold Tryd.f134
  simp only [Option.getD_some]
  have hW := h.len
  have hf := h.few
  simp +decide only[go_sem,reduceAdd,reduceMul,reduceSub]
  refine gw trivial ?_
  refine wpI_loopC (T := Nat) [0, 2, 4, 7, 8] rfl (by simp +decide only[go_sem,reduceAdd,reduceMul,reduceSub]; exact rfl) (fun k => [(7, .int .i64 (offW W k : Nat)), (8, .int .i64 (k : Int))]) (fun _ => []) (fun _ => ⟨[], []⟩) (fun k => k ≤ n) (fun k => n - k) 0 (by simp +decide only[go_sem,reduceAdd,reduceMul,reduceSub] <;> rfl) (by simp) ?_
  rintro k hk
  by_cases h1 : k < n
  · obtain ⟨v, t, w, g1, g2, g3, g4, g5⟩ := h.at (i := k) (by omega)
    have hl : ((k : Int) < (n : Int)) = True := eq_true (by omega)
    have ho := h.off k (by omega)
    have hw := wrap_nat k (by omega)
    have ha := wrap_add (offW W k) w (by omega)
    rw [← offW_succ g3] at ha
    refine gw (an hl (an g1 (an g2 (an g4 (an ha hw))))) ?_
    exact ⟨k + 1, by simp +decide only[go_sem,reduceAdd,reduceMul,reduceSub] <;> rfl, by omega, by omega⟩
  · have hl : ((k : Int) < (n : Int)) = False := eq_false (by omega)
    obtain rfl : k = n := by omega
    refine gw hl ?_
    simp +decide only[go_sem,reduceAdd,reduceMul,reduceSub]
theorem first51 (s : Sl Tbl) (b : Bnd) (W : List Nat) (h : WOK s.items b.tabs.items W) (n : Nat) (hn : n ≤ W.length) : callP (XG G) TT 51 [sl 5 encTbl s, encBnd b, .int .i64 (n : Int)] = some (.int .i64 (offW W n : Nat)) := by
  refine callP_val T51 rfl (by simp only [go_sem]) ?_
  unfold Tryd.f51
  simp only [Option.getD_some]
  have hW := h.len
  have hf := h.few
  simp +decide only[go_sem,reduceAdd,reduceMul,reduceSub]
  refine gw trivial ?_
  refine wpI_loopC (T := Nat) [0, 2, 4, 7, 8] rfl (by simp +decide only[go_sem,reduceAdd,reduceMul,reduceSub]; exact rfl) (fun k => [(7, .int .i64 (offW W k : Nat)), (8, .int .i64 (k : Int))]) (fun _ => []) (fun _ => ⟨[], []⟩) (fun k => k ≤ n) (fun k => n - k) 0 (by simp +decide only[go_sem,reduceAdd,reduceMul,reduceSub] <;> rfl) (by simp) ?_
  rintro k hk
  by_cases h1 : k < n
  · obtain ⟨v, t, w, g1, g2, g3, g4, g5⟩ := h.at (i := k) (by omega)
    have hl : ((k : Int) < (n : Int)) = True := eq_true (by omega)
    have ho := h.off k (by omega)
    have hw := wrap_nat k (by omega)
    have ha := wrap_add (offW W k) w (by omega)
    rw [← offW_succ g3] at ha
    refine gw (an hl (an g1 (an g2 (an g4 (an ha hw))))) ?_
    exact ⟨k + 1, by simp +decide only[go_sem,reduceAdd,reduceMul,reduceSub] <;> rfl, by omega, by omega⟩
  · have hl : ((k : Int) < (n : Int)) = False := eq_false (by omega)
    obtain rfl : k = n := by omega
    refine gw hl ?_
    simp +decide only[go_sem,reduceAdd,reduceMul,reduceSub]
theorem has71 (l : Sl I64) (n : Int) : callP (XG G) TT 71 [sl 1 I l, .int .i64 n] = some (.bool (l.items.any fun x => x.1 == n)) := by
  refine callP_val T71 rfl (by simp only [go_sem]) ?_
  unfold Tryd.f71
  simp only [Option.getD_some]
  have hlt := l.lt
  simp +decide only[go_sem,reduceAdd,reduceMul,reduceSub]
  refine gw trivial ?_
  refine wpI_loopC (T := Nat) [0, 1, 5] rfl (by simp +decide only[go_sem,reduceAdd,reduceMul,reduceSub]; exact rfl) (fun k => [(5, .int .i64 (k : Int))]) (fun _ => []) (fun _ => ⟨[], []⟩) (fun k => k ≤ l.items.length ∧ (l.items.take k).any (fun x => x.1 == n) = false) (fun k => l.items.length - k) 0 (by simp +decide only[go_sem,reduceAdd,reduceMul,reduceSub] <;> rfl) (by simp) ?_
  rintro k ⟨hk, hQ⟩
  by_cases h1 : k < l.items.length
  · have l_x : ((k : Int) < ((l.items).length : Int)) = True := by simp; omega
    obtain ⟨x, g_x⟩ : ∃ a_, (l.items)[k]? = some a_ := ⟨_, List.getElem?_eq_getElem (by assumption)⟩
    have w_x := wrap_nat k (by omega)
    cases c : (x.1 == n)
    · refine gw (an l_x (an g_x (an w_x c))) ?_
      exact ⟨k + 1, by simp +decide only[go_sem,reduceAdd,reduceMul,reduceSub,l_x,g_x,w_x,c] <;> rfl, ⟨by omega, by rw [List.take_add_one, g_x, List.any_append, hQ]; simp [c]⟩, by omega⟩
    · refine gw (an l_x (an g_x (an w_x c))) ?_
      simp +decide only[go_sem,reduceAdd,reduceMul,reduceSub,l_x,g_x,w_x,c]
      rw [List.any_eq_true.2 ⟨x, List.mem_of_getElem? g_x, c⟩]
  · have l_e1 : ((k : Int) < ((l.items).length : Int)) = False := by simp; omega
    rw [List.take_of_length_le (by omega)] at hQ
    refine gw l_e1 ?_
    simp +decide only[go_sem,reduceAdd,reduceMul,reduceSub,l_e1]
    rw [hQ]
theorem has112 (l : Sl I64) (n : Int) : callP (XG G) TT 112 [sl 1 I l, .int .i64 n] = some (.bool (l.items.any fun x => x.1 == n)) := by
  refine callP_val T112 rfl (by simp only [go_sem]) ?_
  unfold Tryd.f112
  simp only [Option.getD_some]
  have hlt := l.lt
  simp +decide only[go_sem,reduceAdd,reduceMul,reduceSub]
  refine gw trivial ?_
  refine wpI_loopC (T := Nat) [0, 1, 5] rfl (by simp +decide only[go_sem,reduceAdd,reduceMul,reduceSub]; exact rfl) (fun k => [(5, .int .i64 (k : Int))]) (fun _ => []) (fun _ => ⟨[], []⟩) (fun k => k ≤ l.items.length ∧ (l.items.take k).any (fun x => x.1 == n) = false) (fun k => l.items.length - k) 0 (by simp +decide only[go_sem,reduceAdd,reduceMul,reduceSub] <;> rfl) (by simp) ?_
  rintro k ⟨hk, hQ⟩
  by_cases h1 : k < l.items.length
  · have l_x : ((k : Int) < ((l.items).length : Int)) = True := by simp; omega
    obtain ⟨x, g_x⟩ : ∃ a_, (l.items)[k]? = some a_ := ⟨_, List.getElem?_eq_getElem (by assumption)⟩
    have w_x := wrap_nat k (by omega)
    cases c : (x.1 == n)
    · refine gw (an l_x (an g_x (an w_x c))) ?_
      exact ⟨k + 1, by simp +decide only[go_sem,reduceAdd,reduceMul,reduceSub,l_x,g_x,w_x,c] <;> rfl, ⟨by omega, by rw [List.take_add_one, g_x, List.any_append, hQ]; simp [c]⟩, by omega⟩
    · refine gw (an l_x (an g_x (an w_x c))) ?_
      simp +decide only[go_sem,reduceAdd,reduceMul,reduceSub,l_x,g_x,w_x,c]
      rw [List.any_eq_true.2 ⟨x, List.mem_of_getElem? g_x, c⟩]
  · have l_e1 : ((k : Int) < ((l.items).length : Int)) = False := by simp; omega
    rw [List.take_of_length_le (by omega)] at hQ
    refine gw l_e1 ?_
    simp +decide only[go_sem,reduceAdd,reduceMul,reduceSub,l_e1]
    rw [hQ]
/-- The source of a variable. -/
def ownF (v : Int) : List Nat → Nat → Nat → Int
  | [], _, _ => -1
  | w :: r, i, f => bif decide ((f : Int) ≤ v) && decide (v < ((f + w : Nat) : Int)) then (i : Int) else ownF v r (i + 1) (f + w)
def ownW (W : List Nat) (v : Int) : Int := ownF v W 0 0
theorem own85 (s : Sl Tbl) (b : Bnd) (W : List Nat) (h : WOK s.items b.tabs.items W) (v : Int) : callP (XG G) TT 85 [sl 5 encTbl s, encBnd b, .int .i64 v] = some (.int .i64 (ownW W v)) := by
  refine callP_val T85 rfl (by simp only [go_sem]) ?_
  unfold Tryd.f85
  simp only [Option.getD_some]
  have hW := h.len
  have hf := h.few
  simp +decide only[go_sem,reduceAdd,reduceMul,reduceSub]
  refine gw trivial ?_
  refine wpI_loopC (T := Nat) [0, 2, 4, 7] rfl (by simp +decide only[go_sem,reduceAdd,reduceMul,reduceSub]; exact rfl) (fun k => [(7, .int .i64 (k : Int))]) (fun _ => []) (fun _ => ⟨[], []⟩) (fun k => k ≤ W.length ∧ ownF v (W.drop k) k (offW W k) = ownW W v) (fun k => W.length - k) 0 (by simp +decide only[go_sem,reduceAdd,reduceMul,reduceSub] <;> rfl) (by exact ⟨Nat.zero_le _, rfl⟩) ?_
  rintro k ⟨hk, hQ⟩
  by_cases h1 : k < b.tabs.items.length
  · obtain ⟨u, t, w, g1, g2, g3, g4, g5⟩ := h.at (i := k) (by omega)
    have hl : ((k : Int) < (b.tabs.items.length : Int)) = True := eq_true (by omega)
    have ho := h.off k (by omega)
    have hw := wrap_nat k (by omega)
    have ha := wrap_add (offW W k) w (by omega)
    have c1 := off134 (G := G) s b W h k (by omega)
    simp only [encBnd_eq] at c1
    rw [dropc g3, ownF] at hQ
    rw [← offW_succ g3] at ha hQ
    by_cases c2 : (offW W k : Int) ≤ v
    · rw [decide_eq_true c2, Bool.true_and] at hQ
      by_cases c3 : v < (offW W (k + 1) : Int)
      · rw [decide_eq_true c3, cond_true] at hQ
        refine gw (an hl (an g1 (an g2 (an g4 (an ha (an hw (an c1 (an c2 c3)))))))) ?_
        simp +decide only[go_sem,reduceAdd,reduceMul,reduceSub,hl,g1,g2,g4,ha,hw,c1]
        rw [← hQ]
      · rw [decide_eq_false c3, cond_false] at hQ
        refine gw (an hl (an g1 (an g2 (an g4 (an ha (an hw (an c1 (an c2 c3)))))))) ?_
        exact ⟨k + 1, by simp +decide only[go_sem,reduceAdd,reduceMul,reduceSub,hl,g1,g2,g4,ha,hw,c1] <;> rfl, ⟨by omega, hQ⟩, by omega⟩
    · rw [decide_eq_false c2, Bool.false_and, cond_false] at hQ
      refine gw (an hl (an g1 (an g2 (an g4 (an ha (an hw (an c1 c2))))))) ?_
      exact ⟨k + 1, by simp +decide only[go_sem,reduceAdd,reduceMul,reduceSub,hl,g1,g2,g4,ha,hw,c1] <;> rfl, ⟨by omega, hQ⟩, by omega⟩
  · have hl : ((k : Int) < (b.tabs.items.length : Int)) = False := eq_false (by omega)
    rw [List.drop_eq_nil_of_le (by omega), ownF] at hQ
    refine gw hl ?_
    simp +decide only[go_sem,reduceAdd,reduceMul,reduceSub]
    rw [← hQ]
theorem own175 (s : Sl Tbl) (b : Bnd) (W : List Nat) (h : WOK s.items b.tabs.items W) (v : Int) : callP (XG G) TT 175 [sl 5 encTbl s, encBnd b, .int .i64 v] = some (.int .i64 (ownW W v)) := by
  refine callP_val T175 rfl (by simp only [go_sem]) ?_
  unfold Tryd.f175
  simp only [Option.getD_some]
  have hW := h.len
  have hf := h.few
  simp +decide only[go_sem,reduceAdd,reduceMul,reduceSub]
  refine gw trivial ?_
  refine wpI_loopC (T := Nat) [0, 2, 4, 7] rfl (by simp +decide only[go_sem,reduceAdd,reduceMul,reduceSub]; exact rfl) (fun k => [(7, .int .i64 (k : Int))]) (fun _ => []) (fun _ => ⟨[], []⟩) (fun k => k ≤ W.length ∧ ownF v (W.drop k) k (offW W k) = ownW W v) (fun k => W.length - k) 0 (by simp +decide only[go_sem,reduceAdd,reduceMul,reduceSub] <;> rfl) (by exact ⟨Nat.zero_le _, rfl⟩) ?_
  rintro k ⟨hk, hQ⟩
  by_cases h1 : k < b.tabs.items.length
  · obtain ⟨u, t, w, g1, g2, g3, g4, g5⟩ := h.at (i := k) (by omega)
    have hl : ((k : Int) < (b.tabs.items.length : Int)) = True := eq_true (by omega)
    have ho := h.off k (by omega)
    have hw := wrap_nat k (by omega)
    have ha := wrap_add (offW W k) w (by omega)
    have c1 := first51 (G := G) s b W h k (by omega)
    simp only [encBnd_eq] at c1
    rw [dropc g3, ownF] at hQ
    rw [← offW_succ g3] at ha hQ
    by_cases c2 : (offW W k : Int) ≤ v
    · rw [decide_eq_true c2, Bool.true_and] at hQ
      by_cases c3 : v < (offW W (k + 1) : Int)
      · rw [decide_eq_true c3, cond_true] at hQ
        refine gw (an hl (an g1 (an g2 (an g4 (an ha (an hw (an c1 (an c2 c3)))))))) ?_
        simp +decide only[go_sem,reduceAdd,reduceMul,reduceSub,hl,g1,g2,g4,ha,hw,c1]
        rw [← hQ]
      · rw [decide_eq_false c3, cond_false] at hQ
        refine gw (an hl (an g1 (an g2 (an g4 (an ha (an hw (an c1 (an c2 c3)))))))) ?_
        exact ⟨k + 1, by simp +decide only[go_sem,reduceAdd,reduceMul,reduceSub,hl,g1,g2,g4,ha,hw,c1] <;> rfl, ⟨by omega, hQ⟩, by omega⟩
    · rw [decide_eq_false c2, Bool.false_and, cond_false] at hQ
      refine gw (an hl (an g1 (an g2 (an g4 (an ha (an hw (an c1 c2))))))) ?_
      exact ⟨k + 1, by simp +decide only[go_sem,reduceAdd,reduceMul,reduceSub,hl,g1,g2,g4,ha,hw,c1] <;> rfl, ⟨by omega, hQ⟩, by omega⟩
  · have hl : ((k : Int) < (b.tabs.items.length : Int)) = False := eq_false (by omega)
    rw [List.drop_eq_nil_of_le (by omega), ownF] at hQ
    refine gw hl ?_
    simp +decide only[go_sem,reduceAdd,reduceMul,reduceSub]
    rw [← hQ]
end Go.Eng
