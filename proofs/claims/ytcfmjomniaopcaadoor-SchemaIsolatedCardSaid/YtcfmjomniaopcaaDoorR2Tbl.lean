/- A part of the proof: see the last text. -/
import Derived.Test.YtcfmjomniaopcaaDoorR2Fgn
import Derived.Test.YtcfmjomniaopcaaDoorKEngA2
set_option linter.unusedSimpArgs false
set_option linter.unusedVariables false
/- The reference's table of a definition. -/
namespace Go.Eng
open Go Go.Proofs
open Nat (reduceAdd reduceMul reduceSub)
set_option maxRecDepth 20000
set_option maxHeartbeats 32000000
attribute [local irreducible] wpI endP
theorem Like.ofAcc {α : Type} {k : Nat} {f : α → D} (b : List Nat) (l : List α) (hl : l.length < 4611686018427387904) (h : ∀ x, stripF noR (f x) = f x) : Like k f (cn l) (accN b k (l.map f)) where
  strip := by rw [strip_accN (stripFL_map f h l), out_cn k f hl]
  len := fun P u => by rw [lenT_accN, List.length_map, cn_items hl]
  idx := fun P t kk n => by
    rw [idxA_accN, cn_items hl]
    cases sliceSz P t with
    | none => rfl
    | some k' =>
      have : atI (l.map f) n = (atI l n).map f := by cases n <;> simp [atI]
      rw [this]
      cases atI l n <;> rfl
  ok := okC_accN _ _ _
  cells := cells_accN _ _ _
def nilS {α : Type} : Sl α := mkSl none (by simp)
@[go_sem] theorem sl_nilS {α : Type} (k : Nat) (f : α → D) : sl k f nilS = .nil := rfl
theorem cn_nil {α : Type} : (cn [] : Sl α) = nilS := by unfold cn; rw [dif_pos (by simp)]; rfl
/-- The numbers of the columns of keys. -/
def keysL (cols : List Col) (acc : List (Sl I64)) : List (Sl Str) → Option (List (Sl I64))
  | [] => some acc
  | k :: r => match numsL cols [] k.items with
    | some l => keysL cols (acc ++ [cn l]) r
    | none => none
/-- The last place. -/
def lastOf {α : Type} (p : α → Bool) : List α → Option Nat
  | [] => none
  | a :: r => match lastOf p r with
    | some j => some (j + 1)
    | none => match p a with | true => some 0 | false => none
def lastF {α : Type} (p : α → Bool) : Nat → Int → List α → Int
  | _, acc, [] => acc
  | i, acc, a :: r => lastF p (i + 1) (match p a with | true => (i : Int) | false => acc) r
theorem lastF_eq {α : Type} (p : α → Bool) : ∀ (l : List α) (i : Nat) (acc : Int), lastF p i acc l = match lastOf p l with | some j => ((i + j : Nat) : Int) | none => acc
  | [], i, acc => rfl
  | a :: r, i, acc => by
    rw [lastF, lastF_eq p r, lastOf]
    cases lastOf p r with
    | some j => simp only []; congr 1; omega
    | none => simp only []; cases p a <;> simp
theorem lastOf_some {α : Type} (p : α → Bool) : ∀ (l : List α) (j : Nat), lastOf p l = some j → ∃ x, l[j]? = some x ∧ p x = true
  | a :: r, j, h => by
    rw [lastOf] at h
    cases hr : lastOf p r with
    | some j' =>
      rw [hr] at h; cases h
      obtain ⟨x, h1, h2⟩ := lastOf_some p r j' hr
      exact ⟨x, by simpa using h1, h2⟩
    | none =>
      rw [hr] at h
      cases c : p a
      · rw [c] at h; cases h
      · rw [c] at h; cases h
        exact ⟨a, by simp, c⟩
/-- The foreign keys, and the error of types. -/
def fgsR (s : List Tbl) (cols : List Col) (acc : List Fgn) (e : Int) : List FgS → Option (List Fgn × Int)
  | [] => some (acc, e)
  | f :: r => match fgnOf lastOf s cols f with
    | some (g, u, b) => fgsR s cols (acc ++ [g]) (bif typF cols u.cols.items g.cols.items b then e else 6) r
    | none => none
theorem numsL_in (cols : List Col) (hc : cols.length < 4611686018427387904) : ∀ (l : List Str) (acc r : List I64), numsL cols acc l = some r → inC cols acc → inC cols r
  | [], acc, r, h, ha => by cases h; exact ha
  | n :: t, acc, r, h, ha => by
    rw [numsL] at h
    cases hf : fnd (fun c : Col => c.name == n) 0 cols with
    | none => rw [hf] at h; cases h
    | some k =>
      rw [hf] at h
      refine numsL_in cols hc t _ r h fun x hx => ?_
      rcases List.mem_append.1 hx with hx | hx
      · exact ha x hx
      · obtain rfl : x = iN k := by simpa using hx
        have hk := fnd_lt hf
        rw [iN_1 (by omega)]
        exact ⟨_, List.getElem?_eq_getElem hk⟩
def tabT : Option (Tbl × Int) → D
  | some (t, 0) => .tuple [encTbl t, .int .i64 0]
  | some (_, e) => .tuple [.agg [.str [], .nil, .nil, .nil, .nil], .int .i64 e]
  | none => .tuple [.agg [.str [], .nil, .nil, .nil, .nil], .int .i64 4]
/-- The reference's table. -/
def tabR (s : List Tbl) (x : Stm) : Option (Tbl × Int) :=
  match keysL x.cols.items [] x.keys.items with
  | some ks => (match fgsR (s ++ [⟨x.name, x.cols, cn ks, nilS, x.checks⟩]) x.cols.items [] 0 x.fgns.items with
    | some (fs, e) => some (⟨x.name, x.cols, cn ks, cn fs, x.checks⟩, e)
    | none => none)
  | none => none
theorem keysL_len (cols : List Col) : ∀ (l : List (Sl Str)) (acc r : List (Sl I64)), keysL cols acc l = some r → r.length = acc.length + l.length
  | [], acc, r, h => by cases h; rfl
  | n :: t, acc, r, h => by
    rw [keysL] at h
    cases hf : numsL cols [] n.items with
    | none => rw [hf] at h; cases h
    | some k =>
      rw [hf] at h
      have := keysL_len cols t _ r h
      simp at this ⊢; omega
theorem app_zero (k : Nat) (b : List (List D)) (tk : List Nat) (es : List D) (y : D) : ∃ v1 tk1 v2 tk2, appendD k ⟨b, tk⟩ (.slice (some 0) k []) es = some (v1, ⟨b, tk1⟩) ∧ (∀ m, elemsOf m k v1 = some es) ∧
    appendD k ⟨b, tk1⟩ v1 [y] = some (v2, ⟨b, tk2⟩) ∧ v2 = .slice (some (tk.length + 1)) k (es ++ [y]) := by
  cases es with
  | nil => exact ⟨.slice (some 0) k [], tk, .slice (some (tk.length + 1)) k ([] ++ [y]), tk ++ [1], rfl, fun m => by simp [elemsOf], by simp [appendD], rfl⟩
  | cons a r =>
    refine ⟨.slice (some (tk.length + 1)) k (a :: r), tk ++ [(a :: r).length], .slice (some (tk.length + 1)) k (a :: r ++ [y]), tk ++ [(a :: r ++ [y]).length], by simp [appendD], fun m => by simp [elemsOf], ?_, rfl⟩
    simp [appendD]
theorem raw_at (s : Sl Tbl) (t : Tbl) (kD : D) (hk : Like 1 (sl 1 I) t.keys kD) (hf : t.fgns = nilS) (n : Nat) (u : Tbl) (hu : (s.items ++ [t])[n]? = some u) :
    ∃ kR fR, (s.items.map encTbl ++ [.agg [.str t.name, sl 6 encCol t.cols, kD, .nil, sl 8 encEx t.checks]])[n]? = some (.agg [.str u.name, sl 6 encCol u.cols, kR, fR, sl 8 encEx u.checks]) ∧ Like 1 (sl 1 I) u.keys kR ∧ stripF noR fR = sl 3 encFgn u.fgns := by
  rcases Nat.lt_or_ge n s.items.length with h | h
  · rw [List.getElem?_append_left h] at hu
    refine ⟨sl 1 (sl 1 I) u.keys, sl 3 encFgn u.fgns, ?_, Like.ofSl _ (fun x => strip_slI 1 x), strip_slFgn 3 _⟩
    rw [List.getElem?_append_left (by simpa using h), List.getElem?_map, hu]; rfl
  · rw [List.getElem?_append_right h] at hu
    have : n - s.items.length = 0 := by
      have := (List.getElem?_eq_some_iff.1 hu).1
      simp at this; omega
    rw [this] at hu
    have hu : t = u := by simpa using hu
    subst hu
    refine ⟨kD, .nil, ?_, hk, ?_⟩
    · rw [List.getElem?_append_right (by simpa using h)]
      simp [this]
    · rw [hf]; rfl
theorem tab59 (s : Sl Tbl) (x : Stm) (hx : SmallS x) (hok : x.fgns.items.all fgB = true) (hs : s.items.length ≤ 100) : callP (XG GK) TT 59 [sl 5 encTbl s, encStm x] = some (tabT (tabR s.items x)) := by
  obtain ⟨x1, x2, x3, x4, x5, x6, x7, x8, x9⟩ := hx
  refine callP_val T59 rfl (by simp only [go_sem]) ?_
  unfold Tryd.f59
  simp only [Option.getD_some]
  simp +decide only[go_sem,reduceAdd,reduceMul,reduceSub]
  refine gw trivial ?_
  refine wpI_loopC (T := Nat × List (Sl I64)) [0, 3, 4, 6, 7] rfl (by simp +decide only[go_sem,reduceAdd,reduceMul,reduceSub]; exact rfl) (fun p => [(7, .int .i64 (p.1 : Int))]) (fun p => [(6, [.str x.name, sl 6 encCol x.cols, accN [] 1 (p.2.map (sl 1 I)), .nil, sl 8 encEx x.checks])]) (fun p => ⟨[], accM [] (p.2.map (sl 1 I))⟩) (fun p => p.1 ≤ x.keys.items.length ∧ p.2.length = p.1 ∧ keysL x.cols.items p.2 (x.keys.items.drop p.1) = keysL x.cols.items [] x.keys.items) (fun p => x.keys.items.length - p.1) (0, []) (by simp +decide only[go_sem,reduceAdd,reduceMul,reduceSub] <;> rfl) (by simp) ?_
  rintro ⟨k, acc⟩ ⟨hk, ha, hP⟩
  simp only at hk ha hP ⊢
  have hal : acc.length < 4611686018427387904 := by omega
  have hst : stripF noR (accN [] 1 (acc.map (sl 1 I))) = sl 1 (sl 1 I) (cn acc) := (Like.ofAcc [] acc hal fun y => strip_slI 1 y).strip
  by_cases h : k < x.keys.items.length
  · have l_y : ((k : Int) < ((x.keys.items).length : Int)) = True := by simp; omega
    obtain ⟨y, g_y⟩ : ∃ a_, (x.keys.items)[k]? = some a_ := ⟨_, List.getElem?_eq_getElem (by assumption)⟩
    have w_y := wrap_nat k (by omega)
    rw [dropc g_y, keysL] at hP
    have hy := x7 y (List.mem_of_getElem? g_y)
    have c1 := numbers108 (G := GK) ⟨x.name, x.cols, cn acc, nilS, x.checks⟩ y (by omega)
    simp only [encTbl_eq, sl_nilS] at c1
    have hl1 := numsL_len x.cols.items y.items []
    generalize numsL x.cols.items [] y.items = o1 at *
    cases o1 with
    | none =>
      simp only [numsT] at c1 hP
      refine gw (an l_y (an g_y (an w_y (an hst c1)))) ?_
      simp +decide only[go_sem,reduceAdd,reduceMul,reduceSub,l_y,g_y,w_y,hst,c1]
      simp only [tabR, ← hP, tabT]
    | some l =>
      have hll := hl1 l rfl
      simp only [numsT] at c1 hP
      rw [out_cn 1 I (by simp at hll; omega)] at c1
      have hle : ((acc.map (sl 1 I)).length + 1 ≤ 16777216) = True := eq_true (by rw [List.length_map]; omega)
      refine gw (an l_y (an g_y (an w_y (an hst (an c1 hle))))) ?_
      refine ⟨(k + 1, acc ++ [cn l]), ?_, ⟨by simp only; omega, by simp [ha], hP⟩, by simp only; omega⟩
      rw [List.map_append]
      exact by simp +decide only[go_sem,reduceAdd,reduceMul,reduceSub,l_y,g_y,w_y,hst,c1] <;> rfl
  have l_e1 : ((k : Int) < ((x.keys.items).length : Int)) = False := by simp; omega
  rw [List.drop_eq_nil_of_le (by omega), keysL] at hP
  have hkeys : keysL x.cols.items [] x.keys.items = some acc := hP.symm
  have hklike : Like 1 (sl 1 I) (cn acc) (accN [] 1 (acc.map (sl 1 I))) := Like.ofAcc [] acc hal fun y => strip_slI 1 y
  obtain ⟨v1, tk1, v2, tk2, hv1, he1, hv2, ev2⟩ := app_zero 5 [] (accM [] (acc.map (sl 1 I))) (s.items.map encTbl) (.agg [.str x.name, sl 6 encCol x.cols, accN [] 1 (acc.map (sl 1 I)), .nil, sl 8 encEx x.checks])
  have hle1 : ((s.items.map encTbl).length ≤ 16777216) = True := eq_true (by rw [List.length_map]; omega)
  have hle2 : ((s.items.map encTbl).length + 1 ≤ 16777216) = True := eq_true (by rw [List.length_map]; omega)
  have hSl : (s.items ++ [(⟨x.name, x.cols, cn acc, nilS, x.checks⟩ : Tbl)]).length < 4611686018427387904 := by simp; omega
  generalize hall : s.items ++ [(⟨x.name, x.cols, cn acc, nilS, x.checks⟩ : Tbl)] = all at *
  have hv2s : stripF noR v2 = sl 5 encTbl (mkSl (some all) hSl) := by
    rw [ev2]
    show D.slice none 5 (stripFL noR _) = D.slice none 5 (all.map encTbl)
    rw [stripFL_append, stripFL_map encTbl fun t => strip_Tbl t, ← hall, List.map_append]
    congr 2
    show [stripF noR _] = _
    simp only [encTbl_eq, stripF_agg, stripFL_cons, hklike.strip, go_sem]
  have hitems : (mkSl (some all) hSl : Sl Tbl).items = all := rfl
  rw [tabR, hkeys]
  simp only [hall]
  refine gw (an l_e1 (an hst (an hv1 (an he1 (an hv2 (an hle1 (an hle2 hv2s))))))) ?_
  refine wpI_loopC (T := Nat × List Fgn × Int) [3, 4, 6, 10, 11, 12] rfl (by simp +decide only[go_sem,reduceAdd,reduceMul,reduceSub,l_e1,hst,hv1,he1,hv2,hle1,hle2,hv2s]; exact rfl) (fun p => [(12, .int .i64 (p.1 : Int)), (11, .int .i64 p.2.2)]) (fun p => [(6, [.str x.name, sl 6 encCol x.cols, accN [] 1 (acc.map (sl 1 I)), accN tk2 3 (p.2.1.map encFgn), sl 8 encEx x.checks])]) (fun p => ⟨[], accM tk2 (p.2.1.map encFgn)⟩) (fun p => p.1 ≤ x.fgns.items.length ∧ p.2.1.length = p.1 ∧ fgsR all x.cols.items p.2.1 p.2.2 (x.fgns.items.drop p.1) = fgsR all x.cols.items [] 0 x.fgns.items) (fun p => x.fgns.items.length - p.1) (0, [], 0) (by simp +decide only[go_sem,reduceAdd,reduceMul,reduceSub,l_e1,hst,hv1,he1,hv2,hle1,hle2,hv2s] <;> rfl) (by simp) ?_
  rintro ⟨k2, fs, e⟩ ⟨hk2, hfs, hQ⟩
  simp only at hk2 hfs hQ ⊢
  have hfl : fs.length < 4611686018427387904 := by omega
  have hst3 : stripF noR (accN tk2 3 (fs.map encFgn)) = sl 3 encFgn (cn fs) := (Like.ofAcc tk2 fs hfl fun y => strip_Fgn y).strip
  by_cases h2 : k2 < x.fgns.items.length
  · have l_y : ((k2 : Int) < ((x.fgns.items).length : Int)) = True := by simp; omega
    obtain ⟨y, g_y⟩ : ∃ a_, (x.fgns.items)[k2]? = some a_ := ⟨_, List.getElem?_eq_getElem (by assumption)⟩
    have w_y := wrap_nat k2 (by omega)
    rw [dropc g_y, fgsR] at hQ
    have hy := x8 y (List.mem_of_getElem? g_y)
    have hyok : fgB y = true := List.all_eq_true.1 hok y (List.mem_of_getElem? g_y)
    have c1 := numbers108 (G := GK) ⟨x.name, x.cols, cn acc, cn fs, x.checks⟩ y.cols (by omega)
    have c2 := find26 (G := GK) (mkSl (some all) hSl) y.table
    simp only [encTbl_eq] at c1
    rw [hitems] at c2
    unfold fgnOf at hQ
    have hl1 := numsL_len x.cols.items y.cols.items []
    have hi1 := numsL_in x.cols.items x.cols.lt y.cols.items []
    generalize numsL x.cols.items [] y.cols.items = o1 at *
    have fl := @fnd_lt _ (fun t : Tbl => t.name == y.table) all
    generalize fnd (fun t : Tbl => t.name == y.table) 0 all = o2 at *
    cases o1 with
    | none =>
      simp only [numsT] at c1 hQ
      cases o2 with
      | none =>
        simp only [fndT] at c2
        refine gw (an l_e1 (an hst (an hv1 (an he1 (an hv2 (an hle1 (an hle2 (an hv2s (an hst3 (an l_y (an g_y (an w_y (an c1 c2))))))))))))) ?_
        simp +decide only[go_sem,reduceAdd,reduceMul,reduceSub,l_e1,hst,hv1,he1,hv2,hle1,hle2,hv2s,hst3,l_y,g_y,w_y,c1,c2]
        rw [← hQ]; rfl
      | some n =>
        simp only [fndT] at c2
        refine gw (an l_e1 (an hst (an hv1 (an he1 (an hv2 (an hle1 (an hle2 (an hv2s (an hst3 (an l_y (an g_y (an w_y (an c1 c2))))))))))))) ?_
        simp +decide only[go_sem,reduceAdd,reduceMul,reduceSub,l_e1,hst,hv1,he1,hv2,hle1,hle2,hv2s,hst3,l_y,g_y,w_y,c1,c2]
        rw [← hQ]; rfl
    | some a =>
      have ha1 := hl1 a rfl
      have hal1 : a.length < 4611686018427387904 := by simp at ha1; omega
      simp only [numsT] at c1
      rw [out_cn 1 I hal1] at c1
      cases o2 with
      | none =>
        simp only [fndT] at c2 hQ
        refine gw (an l_e1 (an hst (an hv1 (an he1 (an hv2 (an hle1 (an hle2 (an hv2s (an hst3 (an l_y (an g_y (an w_y (an c1 c2))))))))))))) ?_
        simp +decide only[go_sem,reduceAdd,reduceMul,reduceSub,l_e1,hst,hv1,he1,hv2,hle1,hle2,hv2s,hst3,l_y,g_y,w_y,c1,c2]
        rw [← hQ]; rfl
      | some n =>
        have fl := fl rfl
        simp only [fndT] at c2 hQ
        obtain ⟨u, hu⟩ : ∃ u, all[n]? = some u := ⟨_, List.getElem?_eq_getElem fl⟩
        obtain ⟨kR, fR, hraw, hkR, hfR⟩ := raw_at s ⟨x.name, x.cols, cn acc, nilS, x.checks⟩ (accN [] 1 (acc.map (sl 1 I))) hklike rfl n u (hall ▸ hu)
        have hidx : idxA Tryd.prog 23 v2 (.int .i64 (n : Int)) = some (.ref [.str u.name, sl 6 encCol u.cols, kR, fR, sl 8 encEx u.checks] 0) := by
          rw [ev2, idxA_slice, ty_ss_23]
          simp only [decide_true, cond_true, atI, hraw]
          rfl
        have c3 := numbers108 (G := GK) u y.refs (by omega)
        simp only [encTbl_eq] at c3
        simp only [hu] at hQ
        have hl2 := numsL_len u.cols.items y.refs.items []
        have hi2 := numsL_in u.cols.items u.cols.lt y.refs.items []
        generalize numsL u.cols.items [] y.refs.items = o3 at *
        cases o3 with
        | none =>
          simp only [numsT] at c3 hQ
          repeat (first|(with_reducible first|refine q1 ?_|refine q2 ?_|refine q3 ?_|refine q4 ?_|refine q5 ?_|refine q6 ?_|refine q7 ?_|refine q8 ?_|refine q9 ?_|refine q10 ?_|refine q11 ?_|refine q12 (by decide) ?_)|((first|with_reducible refine q13 ?_|((with_reducible refine q14 ?_ ?_);focus exact rfl));intro K hK;simp +decide only[go_sem,reduceAdd,reduceMul,reduceSub,l_e1,hst,hv1,he1,hv2,hle1,hle2,hv2s,hst3,l_y,g_y,w_y,c1,c2,hidx,hkR.strip,hfR,hkR.ok,hkR.cells,hkR.len,hkR.idx,c3];with_reducible refine hK _ ?_;clear hK K)|(with_reducible refine q15 ?_;intro K J hK hJ;simp +decide only[go_sem,reduceAdd,reduceMul,reduceSub,l_e1,hst,hv1,he1,hv2,hle1,hle2,hv2s,hst3,l_y,g_y,w_y,c1,c2,hidx,hkR.strip,hfR,hkR.ok,hkR.cells,hkR.len,hkR.idx,c3];(with_reducible first|refine hK ?_|refine hJ ?_);clear hK hJ K J))
          refine wpI_loopC (T := Nat) [3, 4, 6, 10, 11, 12, 14, 16, 18, 19, 20, 21] rfl (by simp +decide only[go_sem,reduceAdd,reduceMul,reduceSub,l_e1,hst,hv1,he1,hv2,hle1,hle2,hv2s,hst3,l_y,g_y,w_y,c1,c2,hidx,hkR.strip,hfR,hkR.ok,hkR.cells,hkR.len,hkR.idx,c3]; exact rfl) (fun q => [(21, .int .i64 (q : Int))]) (fun _ => []) (fun _ => ⟨[], accM tk2 (fs.map encFgn)⟩) (fun q => q ≤ u.keys.items.length) (fun q => u.keys.items.length - q) 0 (by simp +decide only[go_sem,reduceAdd,reduceMul,reduceSub,l_e1,hst,hv1,he1,hv2,hle1,hle2,hv2s,hst3,l_y,g_y,w_y,c1,c2,hidx,hkR.strip,hfR,hkR.ok,hkR.cells,hkR.len,hkR.idx,c3] <;> rfl) (by simp) ?_
          rintro q hq
          have hkl := u.keys.lt
          by_cases h3 : q < u.keys.items.length
          · have l_z : ((q : Int) < ((u.keys.items).length : Int)) = True := by simp; omega
            obtain ⟨z, g_z⟩ : ∃ a_, (u.keys.items)[q]? = some a_ := ⟨_, List.getElem?_eq_getElem (by assumption)⟩
            have w_z := wrap_nat q (by omega)
            repeat (first|(with_reducible first|refine q1 ?_|refine q2 ?_|refine q3 ?_|refine q4 ?_|refine q5 ?_|refine q6 ?_|refine q7 ?_|refine q8 ?_|refine q9 ?_|refine q10 ?_|refine q11 ?_|refine q12 (by decide) ?_)|((first|with_reducible refine q13 ?_|((with_reducible refine q14 ?_ ?_);focus exact rfl));intro K hK;simp +decide only[go_sem,reduceAdd,reduceMul,reduceSub,l_e1,hst,hv1,he1,hv2,hle1,hle2,hv2s,hst3,l_y,g_y,w_y,c1,c2,hidx,hkR.strip,hfR,hkR.ok,hkR.cells,hkR.len,hkR.idx,c3,l_z,g_z,w_z];with_reducible refine hK _ ?_;clear hK K)|(with_reducible refine q15 ?_;intro K J hK hJ;simp +decide only[go_sem,reduceAdd,reduceMul,reduceSub,l_e1,hst,hv1,he1,hv2,hle1,hle2,hv2s,hst3,l_y,g_y,w_y,c1,c2,hidx,hkR.strip,hfR,hkR.ok,hkR.cells,hkR.len,hkR.idx,c3,l_z,g_z,w_z];(with_reducible first|refine hK ?_|refine hJ ?_);clear hK hJ K J))
            exact ⟨(q + 1), by simp +decide only[go_sem,reduceAdd,reduceMul,reduceSub,l_e1,hst,hv1,he1,hv2,hle1,hle2,hv2s,hst3,l_y,g_y,w_y,c1,c2,hidx,hkR.strip,hfR,hkR.ok,hkR.cells,hkR.len,hkR.idx,c3,l_z,g_z,w_z] <;> rfl, by omega, by omega⟩
          · have l_z : ((q : Int) < ((u.keys.items).length : Int)) = False := by simp; omega
            repeat (first|(with_reducible first|refine q1 ?_|refine q2 ?_|refine q3 ?_|refine q4 ?_|refine q5 ?_|refine q6 ?_|refine q7 ?_|refine q8 ?_|refine q9 ?_|refine q10 ?_|refine q11 ?_|refine q12 (by decide) ?_)|((first|with_reducible refine q13 ?_|((with_reducible refine q14 ?_ ?_);focus exact rfl));intro K hK;simp +decide only[go_sem,reduceAdd,reduceMul,reduceSub,l_e1,hst,hv1,he1,hv2,hle1,hle2,hv2s,hst3,l_y,g_y,w_y,c1,c2,hidx,hkR.strip,hfR,hkR.ok,hkR.cells,hkR.len,hkR.idx,c3,l_z];with_reducible refine hK _ ?_;clear hK K)|(with_reducible refine q15 ?_;intro K J hK hJ;simp +decide only[go_sem,reduceAdd,reduceMul,reduceSub,l_e1,hst,hv1,he1,hv2,hle1,hle2,hv2s,hst3,l_y,g_y,w_y,c1,c2,hidx,hkR.strip,hfR,hkR.ok,hkR.cells,hkR.len,hkR.idx,c3,l_z];(with_reducible first|refine hK ?_|refine hJ ?_);clear hK hJ K J))
            simp +decide only[go_sem,reduceAdd,reduceMul,reduceSub,l_e1,hst,hv1,he1,hv2,hle1,hle2,hv2s,hst3,l_y,g_y,w_y,c1,c2,hidx,hkR.strip,hfR,hkR.ok,hkR.cells,hkR.len,hkR.idx,c3,l_z]
            rw [← hQ]; rfl
        | some b =>
          have hb1 := hl2 b rfl
          have hbl : b.length < 4611686018427387904 := by simp at hb1; omega
          simp only [numsT] at c3
          rw [out_cn 1 I hbl] at c3
          dsimp only at hQ
          repeat (first|(with_reducible first|refine q1 ?_|refine q2 ?_|refine q3 ?_|refine q4 ?_|refine q5 ?_|refine q6 ?_|refine q7 ?_|refine q8 ?_|refine q9 ?_|refine q10 ?_|refine q11 ?_|refine q12 (by decide) ?_)|((first|with_reducible refine q13 ?_|((with_reducible refine q14 ?_ ?_);focus exact rfl));intro K hK;simp +decide only[go_sem,reduceAdd,reduceMul,reduceSub,l_e1,hst,hv1,he1,hv2,hle1,hle2,hv2s,hst3,l_y,g_y,w_y,c1,c2,hidx,hkR.strip,hfR,hkR.ok,hkR.cells,hkR.len,hkR.idx,c3];with_reducible refine hK _ ?_;clear hK K)|(with_reducible refine q15 ?_;intro K J hK hJ;simp +decide only[go_sem,reduceAdd,reduceMul,reduceSub,l_e1,hst,hv1,he1,hv2,hle1,hle2,hv2s,hst3,l_y,g_y,w_y,c1,c2,hidx,hkR.strip,hfR,hkR.ok,hkR.cells,hkR.len,hkR.idx,c3];(with_reducible first|refine hK ?_|refine hJ ?_);clear hK hJ K J))
          refine wpI_loopC (T := Nat × Int) [3, 4, 6, 10, 11, 12, 14, 16, 18, 19, 20, 21] rfl (by simp +decide only[go_sem,reduceAdd,reduceMul,reduceSub,l_e1,hst,hv1,he1,hv2,hle1,hle2,hv2s,hst3,l_y,g_y,w_y,c1,c2,hidx,hkR.strip,hfR,hkR.ok,hkR.cells,hkR.len,hkR.idx,c3]; exact rfl) (fun q => [(21, .int .i64 (q.1 : Int)), (20, .int .i64 q.2)]) (fun _ => []) (fun _ => ⟨[], accM tk2 (fs.map encFgn)⟩) (fun q => q.1 ≤ u.keys.items.length ∧ lastF (fun k => eqI k.items b) q.1 q.2 (u.keys.items.drop q.1) = lastF (fun k => eqI k.items b) 0 (-1) u.keys.items) (fun q => u.keys.items.length - q.1) (0, -1) (by simp +decide only[go_sem,reduceAdd,reduceMul,reduceSub,l_e1,hst,hv1,he1,hv2,hle1,hle2,hv2s,hst3,l_y,g_y,w_y,c1,c2,hidx,hkR.strip,hfR,hkR.ok,hkR.cells,hkR.len,hkR.idx,c3] <;> rfl) (by simp) ?_
          rintro ⟨q, key⟩ ⟨hq, hR⟩
          simp only at hq hR ⊢
          have hkl := u.keys.lt
          by_cases h3 : q < u.keys.items.length
          · have l_z : ((q : Int) < ((u.keys.items).length : Int)) = True := by simp; omega
            obtain ⟨z, g_z⟩ : ∃ a_, (u.keys.items)[q]? = some a_ := ⟨_, List.getElem?_eq_getElem (by assumption)⟩
            have w_z := wrap_nat q (by omega)
            have c4 := ints62 (G := GK) z (cn b)
            rw [cn_items hbl] at c4
            rw [dropc g_z, lastF] at hR
            cases c : (eqI z.items b)
            · repeat (first|(with_reducible first|refine q1 ?_|refine q2 ?_|refine q3 ?_|refine q4 ?_|refine q5 ?_|refine q6 ?_|refine q7 ?_|refine q8 ?_|refine q9 ?_|refine q10 ?_|refine q11 ?_|refine q12 (by decide) ?_)|((first|with_reducible refine q13 ?_|((with_reducible refine q14 ?_ ?_);focus exact rfl));intro K hK;simp +decide only[go_sem,reduceAdd,reduceMul,reduceSub,l_e1,hst,hv1,he1,hv2,hle1,hle2,hv2s,hst3,l_y,g_y,w_y,c1,c2,hidx,hkR.strip,hfR,hkR.ok,hkR.cells,hkR.len,hkR.idx,c3,l_z,g_z,w_z,c4,c];with_reducible refine hK _ ?_;clear hK K)|(with_reducible refine q15 ?_;intro K J hK hJ;simp +decide only[go_sem,reduceAdd,reduceMul,reduceSub,l_e1,hst,hv1,he1,hv2,hle1,hle2,hv2s,hst3,l_y,g_y,w_y,c1,c2,hidx,hkR.strip,hfR,hkR.ok,hkR.cells,hkR.len,hkR.idx,c3,l_z,g_z,w_z,c4,c];(with_reducible first|refine hK ?_|refine hJ ?_);clear hK hJ K J))
              rw [c] at hR
              exact ⟨(q + 1, key), by simp +decide only[go_sem,reduceAdd,reduceMul,reduceSub,l_e1,hst,hv1,he1,hv2,hle1,hle2,hv2s,hst3,l_y,g_y,w_y,c1,c2,hidx,hkR.strip,hfR,hkR.ok,hkR.cells,hkR.len,hkR.idx,c3,l_z,g_z,w_z,c4,c] <;> rfl, ⟨by simp only; omega, hR⟩, by simp only; omega⟩
            · repeat (first|(with_reducible first|refine q1 ?_|refine q2 ?_|refine q3 ?_|refine q4 ?_|refine q5 ?_|refine q6 ?_|refine q7 ?_|refine q8 ?_|refine q9 ?_|refine q10 ?_|refine q11 ?_|refine q12 (by decide) ?_)|((first|with_reducible refine q13 ?_|((with_reducible refine q14 ?_ ?_);focus exact rfl));intro K hK;simp +decide only[go_sem,reduceAdd,reduceMul,reduceSub,l_e1,hst,hv1,he1,hv2,hle1,hle2,hv2s,hst3,l_y,g_y,w_y,c1,c2,hidx,hkR.strip,hfR,hkR.ok,hkR.cells,hkR.len,hkR.idx,c3,l_z,g_z,w_z,c4,c];with_reducible refine hK _ ?_;clear hK K)|(with_reducible refine q15 ?_;intro K J hK hJ;simp +decide only[go_sem,reduceAdd,reduceMul,reduceSub,l_e1,hst,hv1,he1,hv2,hle1,hle2,hv2s,hst3,l_y,g_y,w_y,c1,c2,hidx,hkR.strip,hfR,hkR.ok,hkR.cells,hkR.len,hkR.idx,c3,l_z,g_z,w_z,c4,c];(with_reducible first|refine hK ?_|refine hJ ?_);clear hK hJ K J))
              rw [c] at hR
              exact ⟨(q + 1, (q : Int)), by simp +decide only[go_sem,reduceAdd,reduceMul,reduceSub,l_e1,hst,hv1,he1,hv2,hle1,hle2,hv2s,hst3,l_y,g_y,w_y,c1,c2,hidx,hkR.strip,hfR,hkR.ok,hkR.cells,hkR.len,hkR.idx,c3,l_z,g_z,w_z,c4,c] <;> rfl, ⟨by simp only; omega, hR⟩, by simp only; omega⟩
          have l_z : ((q : Int) < ((u.keys.items).length : Int)) = False := by simp; omega
          rw [List.drop_eq_nil_of_le (by omega), lastF, lastF_eq] at hR
          have lsm := lastOf_some (fun k : Sl I64 => eqI k.items b) u.keys.items
          generalize lastOf (fun k : Sl I64 => eqI k.items b) u.keys.items = o4 at *
          cases o4 with
          | none =>
            have hR : key = -1 := hR
            subst hR
            repeat (first|(with_reducible first|refine q1 ?_|refine q2 ?_|refine q3 ?_|refine q4 ?_|refine q5 ?_|refine q6 ?_|refine q7 ?_|refine q8 ?_|refine q9 ?_|refine q10 ?_|refine q11 ?_|refine q12 (by decide) ?_)|((first|with_reducible refine q13 ?_|((with_reducible refine q14 ?_ ?_);focus exact rfl));intro K hK;simp +decide only[go_sem,reduceAdd,reduceMul,reduceSub,l_e1,hst,hv1,he1,hv2,hle1,hle2,hv2s,hst3,l_y,g_y,w_y,c1,c2,hidx,hkR.strip,hfR,hkR.ok,hkR.cells,hkR.len,hkR.idx,c3,l_z];with_reducible refine hK _ ?_;clear hK K)|(with_reducible refine q15 ?_;intro K J hK hJ;simp +decide only[go_sem,reduceAdd,reduceMul,reduceSub,l_e1,hst,hv1,he1,hv2,hle1,hle2,hv2s,hst3,l_y,g_y,w_y,c1,c2,hidx,hkR.strip,hfR,hkR.ok,hkR.cells,hkR.len,hkR.idx,c3,l_z];(with_reducible first|refine hK ?_|refine hJ ?_);clear hK hJ K J))
            simp +decide only[go_sem,reduceAdd,reduceMul,reduceSub,l_e1,hst,hv1,he1,hv2,hle1,hle2,hv2s,hst3,l_y,g_y,w_y,c1,c2,hidx,hkR.strip,hfR,hkR.ok,hkR.cells,hkR.len,hkR.idx,c3,l_z]
            rw [← hQ]; rfl
          | some j =>
            obtain ⟨kz, hkz, _⟩ := lsm j rfl
            have hjl := (List.getElem?_eq_some_iff.1 hkz).1
            have hR : key = ((0 + j : Nat) : Int) := hR
            rw [Nat.zero_add] at hR
            subst hR
            have hj0 : ((j : Int) < 0) = False := eq_false (by omega)
            have hinA : inC x.cols.items (cn a).items := by rw [cn_items hal1]; exact hi1 a rfl fun z hz => by cases hz
            have hinB : inC u.cols.items (cn b).items := by rw [cn_items hbl]; exact hi2 b rfl fun z hz => by cases hz
            have hab : (cn a).items.length ≤ (cn b).items.length := by
              rw [cn_items hal1, cn_items hbl]
              simp only [fgB, Bool.and_eq_true, beq_iff_eq] at hyok
              have := hyok.2
              simp at ha1 hb1; omega
            have c5 := types109 (G := GK) ⟨x.name, x.cols, cn acc, cn fs, x.checks⟩ u (cn a) (cn b) hab hinA hinB
            rw [cn_items hal1, cn_items hbl] at c5
            simp only [encTbl_eq] at c5
            dsimp only at hQ
            rw [cn_items hal1] at hQ
            have hle3 : ((fs.map encFgn).length + 1 ≤ 16777216) = True := eq_true (by rw [List.length_map]; omega)
            have hfin : accN tk2 3 ((fs ++ [(⟨cn a, iN n, iN j⟩ : Fgn)]).map encFgn) = accN tk2 3 (fs.map encFgn ++ [.agg [sl 1 I (cn a), .int .i64 (n : Int), .int .i64 (j : Int)]]) := by
              rw [List.map_append]
              show accN tk2 3 (_ ++ [encFgn _]) = _
              rw [encFgn, iN_1 (show n < 4611686018427387904 by have := (List.getElem?_eq_some_iff.1 hu).1; omega), iN_1 (show j < 4611686018427387904 by omega)]
            have hfin2 : accM tk2 ((fs ++ [(⟨cn a, iN n, iN j⟩ : Fgn)]).map encFgn) = accM tk2 (fs.map encFgn ++ [.agg [sl 1 I (cn a), .int .i64 (n : Int), .int .i64 (j : Int)]]) := by
              rw [List.map_append]
              show accM tk2 (_ ++ [encFgn _]) = _
              rw [encFgn, iN_1 (show n < 4611686018427387904 by have := (List.getElem?_eq_some_iff.1 hu).1; omega), iN_1 (show j < 4611686018427387904 by omega)]
            cases ty : (typF x.cols.items u.cols.items a b)
            · repeat (first|(with_reducible first|refine q1 ?_|refine q2 ?_|refine q3 ?_|refine q4 ?_|refine q5 ?_|refine q6 ?_|refine q7 ?_|refine q8 ?_|refine q9 ?_|refine q10 ?_|refine q11 ?_|refine q12 (by decide) ?_)|((first|with_reducible refine q13 ?_|((with_reducible refine q14 ?_ ?_);focus exact rfl));intro K hK;simp +decide only[go_sem,reduceAdd,reduceMul,reduceSub,l_e1,hst,hv1,he1,hv2,hle1,hle2,hv2s,hst3,l_y,g_y,w_y,c1,c2,hidx,hkR.strip,hfR,hkR.ok,hkR.cells,hkR.len,hkR.idx,c3,l_z,hj0,c5,hle3,ty];with_reducible refine hK _ ?_;clear hK K)|(with_reducible refine q15 ?_;intro K J hK hJ;simp +decide only[go_sem,reduceAdd,reduceMul,reduceSub,l_e1,hst,hv1,he1,hv2,hle1,hle2,hv2s,hst3,l_y,g_y,w_y,c1,c2,hidx,hkR.strip,hfR,hkR.ok,hkR.cells,hkR.len,hkR.idx,c3,l_z,hj0,c5,hle3,ty];(with_reducible first|refine hK ?_|refine hJ ?_);clear hK hJ K J))
              rw [ty, cond_false] at hQ
              refine ⟨(k2 + 1, fs ++ [⟨cn a, iN n, iN j⟩], 6), ?_, ⟨by simp only; omega, by simp [hfs], hQ⟩, by simp only; omega⟩
              rw [hfin, hfin2]
              exact by simp +decide only[go_sem,reduceAdd,reduceMul,reduceSub,l_e1,hst,hv1,he1,hv2,hle1,hle2,hv2s,hst3,l_y,g_y,w_y,c1,c2,hidx,hkR.strip,hfR,hkR.ok,hkR.cells,hkR.len,hkR.idx,c3,l_z,hj0,c5,hle3,ty] <;> rfl
            · repeat (first|(with_reducible first|refine q1 ?_|refine q2 ?_|refine q3 ?_|refine q4 ?_|refine q5 ?_|refine q6 ?_|refine q7 ?_|refine q8 ?_|refine q9 ?_|refine q10 ?_|refine q11 ?_|refine q12 (by decide) ?_)|((first|with_reducible refine q13 ?_|((with_reducible refine q14 ?_ ?_);focus exact rfl));intro K hK;simp +decide only[go_sem,reduceAdd,reduceMul,reduceSub,l_e1,hst,hv1,he1,hv2,hle1,hle2,hv2s,hst3,l_y,g_y,w_y,c1,c2,hidx,hkR.strip,hfR,hkR.ok,hkR.cells,hkR.len,hkR.idx,c3,l_z,hj0,c5,hle3,ty];with_reducible refine hK _ ?_;clear hK K)|(with_reducible refine q15 ?_;intro K J hK hJ;simp +decide only[go_sem,reduceAdd,reduceMul,reduceSub,l_e1,hst,hv1,he1,hv2,hle1,hle2,hv2s,hst3,l_y,g_y,w_y,c1,c2,hidx,hkR.strip,hfR,hkR.ok,hkR.cells,hkR.len,hkR.idx,c3,l_z,hj0,c5,hle3,ty];(with_reducible first|refine hK ?_|refine hJ ?_);clear hK hJ K J))
              rw [ty, cond_true] at hQ
              refine ⟨(k2 + 1, fs ++ [⟨cn a, iN n, iN j⟩], e), ?_, ⟨by simp only; omega, by simp [hfs], hQ⟩, by simp only; omega⟩
              rw [hfin, hfin2]
              exact by simp +decide only[go_sem,reduceAdd,reduceMul,reduceSub,l_e1,hst,hv1,he1,hv2,hle1,hle2,hv2s,hst3,l_y,g_y,w_y,c1,c2,hidx,hkR.strip,hfR,hkR.ok,hkR.cells,hkR.len,hkR.idx,c3,l_z,hj0,c5,hle3,ty] <;> rfl
  · have l_y : ((k2 : Int) < ((x.fgns.items).length : Int)) = False := by simp; omega
    rw [List.drop_eq_nil_of_le (by omega), fgsR] at hQ
    rw [← hQ]
    by_cases he : e = 0
    · subst he
      have hs1 : ∀ g, stripF g (accN [] 1 (acc.map (sl 1 I))) = sl 1 (sl 1 I) (cn acc) := fun g => by rw [strip_accN (stripFL_map _ (fun y => strip_slI 1 y) _), out_cn _ _ hal]
      have hs3 : ∀ g, stripF g (accN tk2 3 (fs.map encFgn)) = sl 3 encFgn (cn fs) := fun g => by rw [strip_accN (stripFL_map _ (fun y => strip_Fgn y) _), out_cn _ _ hfl]
      refine gw (an l_e1 (an hst (an hv1 (an he1 (an hv2 (an hle1 (an hle2 (an hv2s (an hst3 l_y))))))))) ?_
      simp +decide only[go_sem,reduceAdd,reduceMul,reduceSub,l_e1,hst,hv1,he1,hv2,hle1,hle2,hv2s,hst3,l_y,hs1,hs3]
      rfl
    · have he' := bneT he
      refine gw (an l_e1 (an hst (an hv1 (an he1 (an hv2 (an hle1 (an hle2 (an hv2s (an hst3 (an l_y he')))))))))) ?_
      simp +decide only[go_sem,reduceAdd,reduceMul,reduceSub,l_e1,hst,hv1,he1,hv2,hle1,hle2,hv2s,hst3,l_y]
      unfold tabT
      split
      · rename_i h; cases h; exact absurd rfl he
      · rename_i h; cases h; rfl
      · rename_i h; cases h
end Go.Eng
