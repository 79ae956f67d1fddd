/- A part of the proof: see the last text. -/
import Derived.Test.YtcfmjomniaopcaaDoorR2Tbl
import Derived.Test.YtcfmjomniaopcaaDoorR2See
set_option linter.unusedSimpArgs false
set_option linter.unusedVariables false
/- Tables whose checks nobody looks at. (Written in part by gen_c.py.) -/
namespace Go.Eng
open Go Go.Proofs
open Nat (reduceAdd reduceMul reduceSub)
set_option maxRecDepth 20000
set_option maxHeartbeats 32000000
attribute [local irreducible] wpI endP
variable {G : Nat → Option (List D)}
/-- A cell that is as it is. -/
def Cell : Type := { d : D // (∀ g, stripF g d = d) ∧ d.okC = true ∧ d.cells = [d] }
@[go_sem] theorem cell_strip (c : Cell) (g : Nat → Nat → Nat → Nat → D) : stripF g c.1 = c.1 := c.2.1 g
@[go_sem] theorem cell_ok (c : Cell) : c.1.okC = true := c.2.2.1
@[go_sem] theorem cell_cells (c : Cell) : c.1.cells = [c.1] := c.2.2.2
structure TblC where
  name : Str
  cols : Sl Col
  keys : Sl (Sl I64)
  fgns : Sl Fgn
  chk : Cell
def encTblC (t : TblC) : D := .agg [.str t.name, sl 6 encCol t.cols, sl 1 (sl 1 I) t.keys, sl 3 encFgn t.fgns, t.chk.1]
theorem strip_TblC {g : Nat → Nat → Nat → Nat → D} (c : TblC) : stripF g (encTblC c) = encTblC c := by simp only [encTblC, go_sem]
@[go_sem] theorem strip_slTblC {g : Nat → Nat → Nat → Nat → D} (k : Nat) (s : Sl TblC) : stripF g (sl k encTblC s) = sl k encTblC s := strip_sl k _ s strip_TblC
@[go_sem] theorem encTblC_eq (t : TblC) : encTblC t = .agg [.str t.name, sl 6 encCol t.cols, sl 1 (sl 1 I) t.keys, sl 3 encFgn t.fgns, t.chk.1] := rfl
def fgnOfC (pk : (Sl I64 → Bool) → List (Sl I64) → Option Nat) (s : List TblC) (cols : List Col) (f : FgS) : Option (Fgn × TblC × List I64) :=
  match numsL cols [] f.cols.items, fnd (fun t : TblC => t.name == f.table) 0 s with
  | some a, some n => (match s[n]? with
    | some u => (match numsL u.cols.items [] f.refs.items with
      | some b => (match pk (fun k => eqI k.items b) u.keys.items with
        | some j => some (⟨cn a, iN n, iN j⟩, u, b)
        | none => none)
      | none => none)
    | none => none)
  | _, _ => none
def exBC (s : List TblC) (x : Stm) : Bool := (fnd (fun t : TblC => t.name == x.name) 0 s).isSome || (dupS (x.cols.items.map (·.name)) || (kdF [] x.keys.items || x.fgns.items.any fun f => dupS f.cols.items))
def fgTC : Option (Fgn × TblC × List I64) → D
  | some (g, _, _) => .tuple [encFgn g, .int .i64 0]
  | none => .tuple [.agg [.nil, .int .i64 0, .int .i64 0], .int .i64 4]

theorem f64cC (t : TblC) (nm : Str) : callR (XG G) TT 64 ⟨[[.str nm]], []⟩ [encTblC t, .ptr 0 0] = some (.bool (t.name == nm), ⟨[[.str nm]], []⟩) := by
  refine callR_val T64 rfl ?_
  unfold Tryd.f64
  simp only [Option.getD_some]
  simp +decide only[go_sem,reduceAdd,reduceMul,reduceSub]
  refine gw trivial ?_
  simp +decide only[go_sem,reduceAdd,reduceMul,reduceSub]

theorem f63cC (s : Sl TblC) (nm : Str) : callR (XG G) TT 63 ⟨[[.str nm]], []⟩ [sl 5 encTblC s, .func 64 [.ptr 0 0]] = some (fndI (fnd (fun t : TblC => t.name == nm) 0 s.items), ⟨[[.str nm]], []⟩) := by
  refine callR_val T63 rfl ?_
  unfold Tryd.f63
  simp only [Option.getD_some]
  have hlt := s.lt
  simp +decide only[go_sem,reduceAdd,reduceMul,reduceSub]
  refine gw trivial ?_
  refine wpI_loop (T := Nat) [0, 1, 7, 8] (fun k => ⟨slL [(0, sl 5 encTblC s), (1, .func 64 [.ptr 0 0]), (7, .int .i64 (s.items.length : Int)), (8, .int .i64 (k : Int))], opL [], opL [], ⟨[[.str nm]], []⟩⟩) (fun k => k ≤ s.items.length ∧ fnd (fun t : TblC => t.name == nm) k (s.items.drop k) = fnd (fun t : TblC => t.name == nm) 0 s.items) (fun k => s.items.length - k) 0 rfl (by simp +decide only[go_sem,reduceAdd,reduceMul,reduceSub] <;> rfl) (by simp) ?_
  rintro k ⟨hk, hP⟩
  by_cases h : k < s.items.length
  · have l_x : ((k : Int) < ((s.items).length : Int)) = True := by simp; omega
    obtain ⟨x, g_x⟩ : ∃ a_, (s.items)[k]? = some a_ := ⟨_, List.getElem?_eq_getElem (by assumption)⟩
    have w_x := wrap_nat k (by omega)
    rw [dropc g_x, fnd] at hP
    have hc := f64cC (G := G) x nm
    simp only [encTblC_eq] at hc
    cases c : (x.name == nm)
    · rw [c] at hc hP
      refine gw (an l_x (an g_x (an w_x (an l_x (an g_x (an w_x hc)))))) ?_
      exact ⟨k + 1, by simp +decide only[go_sem,reduceAdd,reduceMul,reduceSub,l_x,g_x,w_x] <;> rfl, ⟨by omega, hP⟩, by omega⟩
    · rw [c] at hc hP
      refine gw (an l_x (an g_x (an w_x (an l_x (an g_x (an w_x hc)))))) ?_
      simp +decide only[go_sem,reduceAdd,reduceMul,reduceSub,l_x,g_x,w_x]
      rw [← hP]
      exact ⟨rfl, trivial⟩
  · have l_x : ((k : Int) < ((s.items).length : Int)) = False := by simp; omega
    rw [List.drop_eq_nil_of_le (by omega), fnd] at hP
    refine gw (an l_x l_x) ?_
    simp +decide only[go_sem,reduceAdd,reduceMul,reduceSub,l_x]
    rw [← hP]
    exact ⟨rfl, trivial⟩

theorem find25C (s : Sl TblC) (nm : Str) : callP (XG G) TT 25 [sl 5 encTblC s, .str nm] = some (fndT (fnd (fun t : TblC => t.name == nm) 0 s.items)) := by
  refine callP_val T25 rfl (by simp only [go_sem]) ?_
  unfold Tryd.f25
  simp only [Option.getD_some]
  have hc := f63cC (G := G) s nm
  simp +decide only[go_sem,reduceAdd,reduceMul,reduceSub]
  refine gw trivial ?_
  refine gw hc ?_
  generalize fnd (fun t : TblC => t.name == nm) 0 s.items = o
  cases o with
  | none =>
    simp only [fndI, fndT]
    refine gw trivial ?_
    simp +decide only[go_sem,reduceAdd,reduceMul,reduceSub]
  | some k =>
    simp only [fndI, fndT]
    by_cases h : k = 0
    · subst h
      refine gw trivial ?_
      simp +decide only[go_sem,reduceAdd,reduceMul,reduceSub]
    · have h1 : ((0 : Int) > (k : Int)) = False := by simp
      have h2 : (0 : Int) ≤ (k : Int) := by omega
      refine gw (an h1 h2) ?_
      simp +decide only[go_sem,reduceAdd,reduceMul,reduceSub]

theorem col27C (t : TblC) (nm : Str) : callP (XG G) TT 27 [encTblC t, .str nm] = some (fndT (fnd (fun t : Col => t.name == nm) 0 t.cols.items)) := by
  refine callP_val T27 rfl (by simp only [go_sem]) ?_
  unfold Tryd.f27
  simp only [Option.getD_some]
  have hc := f65c (G := G) t.cols nm
  simp +decide only[go_sem,reduceAdd,reduceMul,reduceSub]
  refine gw trivial ?_
  refine gw hc ?_
  generalize fnd (fun t : Col => t.name == nm) 0 t.cols.items = o
  cases o with
  | none =>
    simp only [fndI, fndT]
    refine gw trivial ?_
    simp +decide only[go_sem,reduceAdd,reduceMul,reduceSub]
  | some k =>
    simp only [fndI, fndT]
    by_cases h : k = 0
    · subst h
      refine gw trivial ?_
      simp +decide only[go_sem,reduceAdd,reduceMul,reduceSub]
    · have h1 : ((0 : Int) > (k : Int)) = False := by simp
      have h2 : (0 : Int) ≤ (k : Int) := by omega
      refine gw (an h1 h2) ?_
      simp +decide only[go_sem,reduceAdd,reduceMul,reduceSub]

theorem numbers97C (t : TblC) (s : Sl Str) (hs : s.items.length ≤ 100) : callP (XG G) TT 97 [encTblC t, sl 1 S s] = some (numsT (numsL t.cols.items [] s.items)) := by
  refine callP_val T97 rfl (by simp only [go_sem]) ?_
  unfold Tryd.f97
  simp only [Option.getD_some]
  simp +decide only[go_sem,reduceAdd,reduceMul,reduceSub]
  refine gw trivial ?_
  refine wpI_loopC (T := Nat × List I64) [2, 6, 11, 12, 13] rfl (by simp +decide only[go_sem,reduceAdd,reduceMul,reduceSub]; exact rfl) (fun p => [(13, .int .i64 (p.1 : Int)), (6, accD 1 (p.2.map I))]) (fun _ => []) (fun p => ⟨[], accT (p.2.map I)⟩) (fun p => p.1 ≤ s.items.length ∧ p.2.length = p.1 ∧ numsL t.cols.items p.2 (s.items.drop p.1) = numsL t.cols.items [] s.items) (fun p => s.items.length - p.1) (0, []) (by simp +decide only[go_sem,reduceAdd,reduceMul,reduceSub] <;> rfl) (by simp) ?_
  rintro ⟨k, acc⟩ ⟨hk, ha, hP⟩
  simp only at hk ha hP ⊢
  by_cases h : k < s.items.length
  · have l_x : ((k : Int) < ((s.items).length : Int)) = True := by simp; omega
    obtain ⟨x, g_x⟩ : ∃ a_, (s.items)[k]? = some a_ := ⟨_, List.getElem?_eq_getElem (by assumption)⟩
    have w_x := wrap_nat k (by omega)
    rw [dropc g_x, numsL] at hP
    have hc := col27C (G := G) t x
    simp only [encTblC_eq] at hc
    have hlt := t.cols.lt
    have fl := @fnd_lt _ (fun c : Col => c.name == x) t.cols.items
    generalize fnd (fun c : Col => c.name == x) 0 t.cols.items = o at *
    cases o with
    | none =>
      simp only [fndT] at hc hP
      refine gw (an l_x (an g_x (an w_x hc))) ?_
      simp +decide only[go_sem,reduceAdd,reduceMul,reduceSub,l_x,g_x,w_x]
      rw [← hP]; rfl
    | some j =>
      have fl := fl rfl
      simp only [fndT] at hc hP
      have hl : ((acc.map I).length + 1 ≤ 16777216) = True := eq_true (by rw [List.length_map]; omega)
      refine gw (an l_x (an g_x (an w_x (an hc hl)))) ?_
      refine ⟨(k + 1, acc ++ [iN j]), ?_, ⟨by simp only; omega, by simp [ha], hP⟩, by simp only; omega⟩
      rw [List.map_append, List.map_cons, List.map_nil, I, iN_1 (show j < 4611686018427387904 by omega)]
      exact by simp +decide only[go_sem,reduceAdd,reduceMul,reduceSub,l_x,g_x,w_x] <;> rfl
  · have l_x : ((k : Int) < ((s.items).length : Int)) = False := by simp; omega
    rw [List.drop_eq_nil_of_le (by omega), numsL] at hP
    refine gw l_x ?_
    simp +decide only[go_sem,reduceAdd,reduceMul,reduceSub,l_x]
    rw [← hP, numsT, strip_acc (strip_Is acc)]

theorem types102C (s : Sl TblC) (t u : TblC) (f : Fgn) (b : Sl I64) (hu : atI s.items f.table.1 = some u) (hb0 : atI u.keys.items f.key.1 = some b) (hl : b.items.length ≤ f.cols.items.length) (ha : inC t.cols.items f.cols.items) (hb : inC u.cols.items b.items) :
    callP (XG G) TT 102 [sl 5 encTblC s, encTblC t, encFgn f] = some (.bool (typF u.cols.items t.cols.items b.items f.cols.items)) := by
  refine callP_val T102 rfl (by simp only [go_sem]) ?_
  unfold Tryd.f102
  simp only [Option.getD_some]
  have hlt := b.lt
  simp +decide only[go_sem,reduceAdd,reduceMul,reduceSub,hu,hb0]
  refine gw (an hu hb0) ?_
  refine wpI_loopC (T := Nat) [4, 5, 7, 20, 21, 22] rfl (by simp +decide only[go_sem,reduceAdd,reduceMul,reduceSub,hu,hb0]; exact rfl) (fun k => [(22, .int .i64 (k : Int))]) (fun _ => []) (fun _ => ⟨[], []⟩) (fun k => k ≤ b.items.length ∧ typF u.cols.items t.cols.items (b.items.drop k) (f.cols.items.drop k) = typF u.cols.items t.cols.items b.items f.cols.items) (fun k => b.items.length - k) 0 (by simp +decide only[go_sem,reduceAdd,reduceMul,reduceSub,hu,hb0] <;> rfl) (by exact ⟨Nat.zero_le _, rfl⟩) ?_
  rintro k ⟨hk, hP⟩
  by_cases h : k < b.items.length
  · have l_x : ((k : Int) < ((b.items).length : Int)) = True := by simp; omega
    obtain ⟨x, g_x⟩ : ∃ a_, (b.items)[k]? = some a_ := ⟨_, List.getElem?_eq_getElem (by assumption)⟩
    have w_x := wrap_nat k (by omega)
    have h2 : k < f.cols.items.length := by omega
    have l_y : ((k : Int) < ((f.cols.items).length : Int)) = True := by simp; omega
    obtain ⟨y, g_y⟩ : ∃ a_, (f.cols.items)[k]? = some a_ := ⟨_, List.getElem?_eq_getElem (by assumption)⟩
    have w_y := wrap_nat k (by omega)
    obtain ⟨c, hc⟩ := hb x (List.mem_of_getElem? g_x)
    obtain ⟨d, hd⟩ := ha y (List.mem_of_getElem? g_y)
    rw [typF_step g_x g_y hc hd] at hP
    cases e : c.a.1 == d.a.1
    · have e2 : (c.a.1 != d.a.1) = true := by rw [bne, e]; rfl
      refine gw (an hu (an hb0 (an l_x (an g_x (an w_x (an l_y (an g_y (an w_y (an hc (an hd e2)))))))))) ?_
      rw [e, Bool.false_and] at hP
      simp +decide only[go_sem,reduceAdd,reduceMul,reduceSub,hu,hb0,l_x,g_x,w_x,l_y,g_y,w_y,hc,hd]
      rw [← hP]
    · have e2 : (c.a.1 != d.a.1) = false := by rw [bne, e]; rfl
      refine gw (an hu (an hb0 (an l_x (an g_x (an w_x (an l_y (an g_y (an w_y (an hc (an hd e2)))))))))) ?_
      rw [e, Bool.true_and] at hP
      exact ⟨k + 1, by simp +decide only[go_sem,reduceAdd,reduceMul,reduceSub,hu,hb0,l_x,g_x,w_x,l_y,g_y,w_y,hc,hd] <;> rfl, ⟨by omega, hP⟩, by omega⟩
  · have l_x : ((k : Int) < ((b.items).length : Int)) = False := by simp; omega
    rw [List.drop_eq_nil_of_le (by omega), typF_nil] at hP
    refine gw (an hu (an hb0 l_x)) ?_
    simp +decide only[go_sem,reduceAdd,reduceMul,reduceSub,hu,hb0,l_x]
    rw [← hP]

theorem twice95C (s : Sl TblC) (x : Stm) (hx : SmallS x) (v : D) (g : List (List D)) (tk : List Nat) (hs : Sees ([v] :: g) v (sl 5 encTblC s)) (hv : v.cells = [v]) (hok : v.okC = true) :
    ∃ g', callR (XG GK) TT 95 ⟨[v] :: g, tk⟩ [.ptr 0 0, encStm x] = some (.int .i64 (bif exBC s.items x then 5 else 0), ⟨[v] :: g', tk⟩) ∧ g <+: g' := by
  suffices h : ∃ r m', callR (XG GK) TT 95 ⟨[v] :: g, tk⟩ [.ptr 0 0, encStm x] = some (r, m') ∧ (r = .int .i64 (bif exBC s.items x then 5 else 0) ∧ ∃ g', m' = ⟨[v] :: g', tk⟩ ∧ g <+: g') by
    obtain ⟨r, m', h1, rfl, g', rfl, h2⟩ := h; exact ⟨g', h1, h2⟩
  obtain ⟨x1, x2, x3, x4, x5, x6, x7, x8, x9⟩ := hx
  refine callR_body T95 rfl ?_
  unfold Tryd.f95
  simp only [Option.getD_some]
  have c1 : callR (XG GK) TT 200025 ⟨[v] :: g, tk⟩ [v, .str x.name] = some (fndT (fnd (fun t : TblC => t.name == x.name) 0 s.items), ⟨[v] :: g, tk⟩) := callR_frz T25 T200025 (by rw [frzL_cons, frzL_cons, frzL_nil, hs _ (AgB.refl _ _)]; rfl) (by simp only [go_sem]) (find25C s x.name) (scal_fndT _)
  have c2 := names127 (G := GK) x.cols (by omega)
  have c3 := rep126 (G := GK) (cn (x.cols.items.map (·.name)))
  rw [cn_items (by rw [List.length_map]; omega)] at c3
  unfold exBC
  generalize fnd (fun t : TblC => t.name == x.name) 0 s.items = o at *
  simp +decide only[go_sem,reduceAdd,reduceMul,reduceSub,true_and,hv,hok,c1,c2,c3]
  repeat (first|(with_reducible first|refine q1 ?_|refine q2 ?_|refine q3 ?_|refine q4 ?_|refine q5 ?_|refine q6 ?_|refine q7 ?_|refine q8 ?_|refine q9 ?_|refine q10 ?_|refine q11 ?_|refine q12 (by decide) ?_)|((first|with_reducible refine q13 ?_|((with_reducible refine q14 ?_ ?_);focus exact rfl));intro K hK;simp +decide only[go_sem,reduceAdd,reduceMul,reduceSub,true_and,hv,hok,c1,c2,c3];with_reducible refine hK _ ?_;clear hK K)|(with_reducible refine q15 ?_;intro K J hK hJ;simp +decide only[go_sem,reduceAdd,reduceMul,reduceSub,true_and,hv,hok,c1,c2,c3];(with_reducible first|refine hK ?_|refine hJ ?_);clear hK hJ K J))
  cases o with
  | some j =>
    simp only [fndT] at c1
    repeat (first|(with_reducible first|refine q1 ?_|refine q2 ?_|refine q3 ?_|refine q4 ?_|refine q5 ?_|refine q6 ?_|refine q7 ?_|refine q8 ?_|refine q9 ?_|refine q10 ?_|refine q11 ?_|refine q12 (by decide) ?_)|((first|with_reducible refine q13 ?_|((with_reducible refine q14 ?_ ?_);focus exact rfl));intro K hK;simp +decide only[go_sem,reduceAdd,reduceMul,reduceSub,true_and,hv,hok,c1,c2,c3];with_reducible refine hK _ ?_;clear hK K)|(with_reducible refine q15 ?_;intro K J hK hJ;simp +decide only[go_sem,reduceAdd,reduceMul,reduceSub,true_and,hv,hok,c1,c2,c3];(with_reducible first|refine hK ?_|refine hJ ?_);clear hK hJ K J))
    simp +decide only[go_sem,reduceAdd,reduceMul,reduceSub,true_and,hv,hok,c1,c2,c3]
    exact ⟨rfl, _, rfl, by first | exact List.prefix_refl _ | exact hg | exact hg.trans (List.prefix_append _ _)⟩
  | none =>
    simp only [fndT] at c1
    rw [Option.isSome_none, Bool.false_or]
    cases d1 : (dupS (x.cols.items.map (·.name)))
    · rw [Bool.false_or]
      repeat (first|(with_reducible first|refine q1 ?_|refine q2 ?_|refine q3 ?_|refine q4 ?_|refine q5 ?_|refine q6 ?_|refine q7 ?_|refine q8 ?_|refine q9 ?_|refine q10 ?_|refine q11 ?_|refine q12 (by decide) ?_)|((first|with_reducible refine q13 ?_|((with_reducible refine q14 ?_ ?_);focus exact rfl));intro K hK;simp +decide only[go_sem,reduceAdd,reduceMul,reduceSub,true_and,hv,hok,c1,c2,c3,d1];with_reducible refine hK _ ?_;clear hK K)|(with_reducible refine q15 ?_;intro K J hK hJ;simp +decide only[go_sem,reduceAdd,reduceMul,reduceSub,true_and,hv,hok,c1,c2,c3,d1];(with_reducible first|refine hK ?_|refine hJ ?_);clear hK hJ K J))
      refine wpI_loopC (T := Nat × List (List D)) [5, 30, 31, 32] rfl (by simp +decide only[go_sem,reduceAdd,reduceMul,reduceSub,true_and,hv,hok,c1,c2,c3,d1]; exact rfl) (fun p => [(32, .int .i64 (p.1 : Int))]) (fun _ => []) (fun p => ⟨[v] :: p.2, tk⟩) (fun p => p.1 ≤ x.keys.items.length ∧ kdF (x.keys.items.take p.1) (x.keys.items.drop p.1) = kdF [] x.keys.items ∧ g <+: p.2) (fun p => x.keys.items.length - p.1) (0, g) (by simp +decide only[go_sem,reduceAdd,reduceMul,reduceSub,true_and,hv,hok,c1,c2,c3,d1] <;> rfl) (by exact ⟨Nat.zero_le _, rfl, List.prefix_refl _⟩) ?_
      rintro ⟨k2, g2⟩ ⟨hk2, hP, hg⟩
      simp only at hk2 hP hg ⊢
      by_cases h2 : k2 < x.keys.items.length
      · have hlt : x.keys.items.length < 4611686018427387904 := x.keys.lt
        have l_y : ((k2 : Int) < ((x.keys.items).length : Int)) = True := by simp; omega
        obtain ⟨y, g_y⟩ : ∃ a_, (x.keys.items)[k2]? = some a_ := ⟨_, List.getElem?_eq_getElem (by assumption)⟩
        have w_y := wrap_nat k2 (by omega)
        rw [kdF_step g_y] at hP
        have c4 := rep126 (G := GK) y
        cases d2 : (dupS y.items)
        · rw [d2, Bool.false_or] at hP
          have c5 := slcI_sl (P := Tryd.prog) (t := 34) (k := 1) (sl 1 S) x.keys (i := k2) ty_ss_34 (by omega)
          have c6 := ctf149 (x.keys.take k2) 150 [.ptr (g2.length + 1) 0] ⟨[v] :: (g2 ++ [[sl 1 S y]]), tk⟩ (fun o => eqS o.items y.items) (eq_true (by decide)) fun o _ => eq150 o y _ _ (by simp)
          rw [Sl.take_items, show (fun o : Sl Str => eqS o.items y.items) = fun o => eqS y.items o.items from funext fun o => eqS_symm _ _] at c6
          repeat (first|(with_reducible first|refine q1 ?_|refine q2 ?_|refine q3 ?_|refine q4 ?_|refine q5 ?_|refine q6 ?_|refine q7 ?_|refine q8 ?_|refine q9 ?_|refine q10 ?_|refine q11 ?_|refine q12 (by decide) ?_)|((first|with_reducible refine q13 ?_|((with_reducible refine q14 ?_ ?_);focus exact rfl));intro K hK;simp +decide only[go_sem,reduceAdd,reduceMul,reduceSub,true_and,hv,hok,c1,c2,c3,d1,l_y,g_y,w_y,c4,d2,c5,c6];with_reducible refine hK _ ?_;clear hK K)|(with_reducible refine q15 ?_;intro K J hK hJ;simp +decide only[go_sem,reduceAdd,reduceMul,reduceSub,true_and,hv,hok,c1,c2,c3,d1,l_y,g_y,w_y,c4,d2,c5,c6];(with_reducible first|refine hK ?_|refine hJ ?_);clear hK hJ K J))
          cases d3 : ((x.keys.items.take k2).any fun o => eqS y.items o.items)
          · rw [d3, Bool.false_or] at hP
            repeat (first|(with_reducible first|refine q1 ?_|refine q2 ?_|refine q3 ?_|refine q4 ?_|refine q5 ?_|refine q6 ?_|refine q7 ?_|refine q8 ?_|refine q9 ?_|refine q10 ?_|refine q11 ?_|refine q12 (by decide) ?_)|((first|with_reducible refine q13 ?_|((with_reducible refine q14 ?_ ?_);focus exact rfl));intro K hK;simp +decide only[go_sem,reduceAdd,reduceMul,reduceSub,true_and,hv,hok,c1,c2,c3,d1,l_y,g_y,w_y,c4,d2,c5,c6,d3];with_reducible refine hK _ ?_;clear hK K)|(with_reducible refine q15 ?_;intro K J hK hJ;simp +decide only[go_sem,reduceAdd,reduceMul,reduceSub,true_and,hv,hok,c1,c2,c3,d1,l_y,g_y,w_y,c4,d2,c5,c6,d3];(with_reducible first|refine hK ?_|refine hJ ?_);clear hK hJ K J))
            exact ⟨(k2 + 1, g2 ++ [[sl 1 S y]]), by simp +decide only[go_sem,reduceAdd,reduceMul,reduceSub,true_and,hv,hok,c1,c2,c3,d1,l_y,g_y,w_y,c4,d2,c5,c6,d3] <;> rfl, ⟨by simp only; omega, hP, hg.trans (List.prefix_append _ _)⟩, by simp only; omega⟩
          · rw [d3, Bool.true_or] at hP
            repeat (first|(with_reducible first|refine q1 ?_|refine q2 ?_|refine q3 ?_|refine q4 ?_|refine q5 ?_|refine q6 ?_|refine q7 ?_|refine q8 ?_|refine q9 ?_|refine q10 ?_|refine q11 ?_|refine q12 (by decide) ?_)|((first|with_reducible refine q13 ?_|((with_reducible refine q14 ?_ ?_);focus exact rfl));intro K hK;simp +decide only[go_sem,reduceAdd,reduceMul,reduceSub,true_and,hv,hok,c1,c2,c3,d1,l_y,g_y,w_y,c4,d2,c5,c6,d3];with_reducible refine hK _ ?_;clear hK K)|(with_reducible refine q15 ?_;intro K J hK hJ;simp +decide only[go_sem,reduceAdd,reduceMul,reduceSub,true_and,hv,hok,c1,c2,c3,d1,l_y,g_y,w_y,c4,d2,c5,c6,d3];(with_reducible first|refine hK ?_|refine hJ ?_);clear hK hJ K J))
            simp +decide only[go_sem,reduceAdd,reduceMul,reduceSub,true_and,hv,hok,c1,c2,c3,d1,l_y,g_y,w_y,c4,d2,c5,c6,d3]
            rw [← hP]
            exact ⟨rfl, _, rfl, by first | exact List.prefix_refl _ | exact hg | exact hg.trans (List.prefix_append _ _)⟩
        · rw [d2, Bool.true_or, Bool.true_or] at hP
          repeat (first|(with_reducible first|refine q1 ?_|refine q2 ?_|refine q3 ?_|refine q4 ?_|refine q5 ?_|refine q6 ?_|refine q7 ?_|refine q8 ?_|refine q9 ?_|refine q10 ?_|refine q11 ?_|refine q12 (by decide) ?_)|((first|with_reducible refine q13 ?_|((with_reducible refine q14 ?_ ?_);focus exact rfl));intro K hK;simp +decide only[go_sem,reduceAdd,reduceMul,reduceSub,true_and,hv,hok,c1,c2,c3,d1,l_y,g_y,w_y,c4,d2];with_reducible refine hK _ ?_;clear hK K)|(with_reducible refine q15 ?_;intro K J hK hJ;simp +decide only[go_sem,reduceAdd,reduceMul,reduceSub,true_and,hv,hok,c1,c2,c3,d1,l_y,g_y,w_y,c4,d2];(with_reducible first|refine hK ?_|refine hJ ?_);clear hK hJ K J))
          simp +decide only[go_sem,reduceAdd,reduceMul,reduceSub,true_and,hv,hok,c1,c2,c3,d1,l_y,g_y,w_y,c4,d2]
          rw [← hP]
          exact ⟨rfl, _, rfl, by first | exact List.prefix_refl _ | exact hg | exact hg.trans (List.prefix_append _ _)⟩
      have l_e2 : ((k2 : Int) < ((x.keys.items).length : Int)) = False := by simp; omega
      rw [List.drop_eq_nil_of_le (by omega), kdF] at hP
      rw [← hP, Bool.false_or]
      have c7 := all147 x.fgns 152 [] ⟨[v] :: g2, tk⟩ (fun f => !dupS f.cols.items) (eq_true (by decide)) fun y hy => own_val pf152 (by rw [stripL, stripFL_cons, strip_FgS]; rfl) (rep152 y)
      rw [show (x.fgns.items.any fun f => dupS f.cols.items) = !(x.fgns.items.all fun f => !dupS f.cols.items) from by rw [← not_any]; simp]
      repeat (first|(with_reducible first|refine q1 ?_|refine q2 ?_|refine q3 ?_|refine q4 ?_|refine q5 ?_|refine q6 ?_|refine q7 ?_|refine q8 ?_|refine q9 ?_|refine q10 ?_|refine q11 ?_|refine q12 (by decide) ?_)|((first|with_reducible refine q13 ?_|((with_reducible refine q14 ?_ ?_);focus exact rfl));intro K hK;simp +decide only[go_sem,reduceAdd,reduceMul,reduceSub,true_and,hv,hok,c1,c2,c3,d1,l_e2,c7];with_reducible refine hK _ ?_;clear hK K)|(with_reducible refine q15 ?_;intro K J hK hJ;simp +decide only[go_sem,reduceAdd,reduceMul,reduceSub,true_and,hv,hok,c1,c2,c3,d1,l_e2,c7];(with_reducible first|refine hK ?_|refine hJ ?_);clear hK hJ K J))
      cases d4 : (x.fgns.items.all fun f => !dupS f.cols.items)
      · repeat (first|(with_reducible first|refine q1 ?_|refine q2 ?_|refine q3 ?_|refine q4 ?_|refine q5 ?_|refine q6 ?_|refine q7 ?_|refine q8 ?_|refine q9 ?_|refine q10 ?_|refine q11 ?_|refine q12 (by decide) ?_)|((first|with_reducible refine q13 ?_|((with_reducible refine q14 ?_ ?_);focus exact rfl));intro K hK;simp +decide only[go_sem,reduceAdd,reduceMul,reduceSub,true_and,hv,hok,c1,c2,c3,d1,l_e2,c7,d4];with_reducible refine hK _ ?_;clear hK K)|(with_reducible refine q15 ?_;intro K J hK hJ;simp +decide only[go_sem,reduceAdd,reduceMul,reduceSub,true_and,hv,hok,c1,c2,c3,d1,l_e2,c7,d4];(with_reducible first|refine hK ?_|refine hJ ?_);clear hK hJ K J))
        simp +decide only[go_sem,reduceAdd,reduceMul,reduceSub,true_and,hv,hok,c1,c2,c3,d1,l_e2,c7,d4]
        exact ⟨_, rfl, by first | exact List.prefix_refl _ | exact hg | exact hg.trans (List.prefix_append _ _)⟩
      · repeat (first|(with_reducible first|refine q1 ?_|refine q2 ?_|refine q3 ?_|refine q4 ?_|refine q5 ?_|refine q6 ?_|refine q7 ?_|refine q8 ?_|refine q9 ?_|refine q10 ?_|refine q11 ?_|refine q12 (by decide) ?_)|((first|with_reducible refine q13 ?_|((with_reducible refine q14 ?_ ?_);focus exact rfl));intro K hK;simp +decide only[go_sem,reduceAdd,reduceMul,reduceSub,true_and,hv,hok,c1,c2,c3,d1,l_e2,c7,d4];with_reducible refine hK _ ?_;clear hK K)|(with_reducible refine q15 ?_;intro K J hK hJ;simp +decide only[go_sem,reduceAdd,reduceMul,reduceSub,true_and,hv,hok,c1,c2,c3,d1,l_e2,c7,d4];(with_reducible first|refine hK ?_|refine hJ ?_);clear hK hJ K J))
        simp +decide only[go_sem,reduceAdd,reduceMul,reduceSub,true_and,hv,hok,c1,c2,c3,d1,l_e2,c7,d4]
        exact ⟨_, rfl, by first | exact List.prefix_refl _ | exact hg | exact hg.trans (List.prefix_append _ _)⟩
    · repeat (first|(with_reducible first|refine q1 ?_|refine q2 ?_|refine q3 ?_|refine q4 ?_|refine q5 ?_|refine q6 ?_|refine q7 ?_|refine q8 ?_|refine q9 ?_|refine q10 ?_|refine q11 ?_|refine q12 (by decide) ?_)|((first|with_reducible refine q13 ?_|((with_reducible refine q14 ?_ ?_);focus exact rfl));intro K hK;simp +decide only[go_sem,reduceAdd,reduceMul,reduceSub,true_and,hv,hok,c1,c2,c3,d1];with_reducible refine hK _ ?_;clear hK K)|(with_reducible refine q15 ?_;intro K J hK hJ;simp +decide only[go_sem,reduceAdd,reduceMul,reduceSub,true_and,hv,hok,c1,c2,c3,d1];(with_reducible first|refine hK ?_|refine hJ ?_);clear hK hJ K J))
      simp +decide only[go_sem,reduceAdd,reduceMul,reduceSub,true_and,hv,hok,c1,c2,c3,d1]
      exact ⟨rfl, _, rfl, by first | exact List.prefix_refl _ | exact hg | exact hg.trans (List.prefix_append _ _)⟩

end Go.Eng
