/- A part of the proof: see the last text. -/
import Derived.Test.YtcfmjomniaopcaaDoorR2Add2
import Derived.Test.YtcfmjomniaopcaaDoorR2Num
import Derived.Test.YtcfmjomniaopcaaDoorKR2Same
set_option linter.unusedSimpArgs false
set_option linter.unusedVariables false
/- The builder's add: what the walk needs. -/
namespace Go.Eng
open Go Go.Proofs
/-- The builder's memory, from add's boxes on: the new schema, the table (its checks), the closure, the rows of checks. -/
def mB (B : List (List D)) (a : List D) (f : D → List D) (fn : List D) (c : D) (cb : List (List D)) : List (List D) := B ++ (a :: f c :: fn :: cb)
section
variable {B : List (List D)} {a : List D} {f : D → List D} {fn : List D} {c : D} {cb : List (List D)}
theorem mB_len : (mB B a f fn c cb).length = B.length + 3 + cb.length := by simp [mB]; omega
theorem mB_a : (mB B a f fn c cb)[B.length]? = some a := by simp [mB]
theorem mB_t : (mB B a f fn c cb)[B.length + 1]? = some (f c) := by
  rw [mB, List.getElem?_append_right (by omega)]; simp
theorem mB_old {i : Nat} {r : List D} (h : B[i]? = some r) : (mB B a f fn c cb)[i]? = some r := by
  have := (List.getElem?_eq_some_iff.1 h).1
  rw [mB, List.getElem?_append_left this]; exact h
theorem mB_c (i : Nat) : (mB B a f fn c cb)[B.length + 3 + i]? = cb[i]? := by
  rw [mB, List.getElem?_append_right (by omega), show B.length + 3 + i - B.length = i + 3 by omega]; rfl
theorem mB_app (z : List D) : mB B a f fn c cb ++ [z] = mB B a f fn c (cb ++ [z]) := by simp [mB]
theorem mB_set (i : Nat) (z : List D) : (mB B a f fn c cb).set (B.length + 3 + i) z = mB B a f fn c (cb.set i z) := by
  rw [mB, List.set_append_right _ _ (by omega), show B.length + 3 + i - B.length = i + 3 by omega]; rfl
theorem mB_tab (c' : D) : (mB B a f fn c cb).set (B.length + 1) (f c') = mB B a f fn c' cb := by
  rw [mB, List.set_append_right _ _ (by omega), show B.length + 1 - B.length = 1 by omega]; rfl
end
/-- Keys, each in a box of its own. -/
def KeysB (B : List (List D)) : List D → List (Sl I64) → Prop
  | [], [] => True
  | d :: ds, k :: ks => (∃ l : List I64, k = cn l ∧ l.length ≤ 1000 ∧ BoxS I B 1 d l) ∧ KeysB B ds ks
  | _, _ => False
theorem KeysB.push {B : List (List D)} {d : D} {l : List I64} (hl : l.length ≤ 1000) (h : BoxS I B 1 d l) : ∀ {ds : List D} {ks : List (Sl I64)}, KeysB B ds ks → KeysB B (ds ++ [d]) (ks ++ [cn l])
  | [], [], _ => ⟨⟨l, rfl, hl, h⟩, trivial⟩
  | _ :: _, _ :: _, ⟨h1, h2⟩ => ⟨h1, KeysB.push hl h h2⟩
  | [], _ :: _, h => h.elim
  | _ :: _, [], h => h.elim
theorem KeysB.agree {B B' : List (List D)} (hb : ∀ i c, 0 < i → B[i]? = some c → B'[i]? = some c) : ∀ {ds : List D} {ks : List (Sl I64)}, KeysB B ds ks → KeysB B' ds ks
  | [], [], _ => trivial
  | _ :: _, _ :: _, ⟨⟨l, h1, h2, h3⟩, h4⟩ => ⟨⟨l, h1, h2, h3.agree hb⟩, KeysB.agree hb h4⟩
  | [], _ :: _, h => h.elim
  | _ :: _, [], h => h.elim
theorem KeysB.len {B : List (List D)} : ∀ {ds : List D} {ks : List (Sl I64)}, KeysB B ds ks → ds.length = ks.length
  | [], [], _ => rfl
  | _ :: _, _ :: _, ⟨_, h⟩ => by simp [KeysB.len h]
  | [], _ :: _, h => h.elim
  | _ :: _, [], h => h.elim
theorem KeysB.sees {B : List (List D)} : ∀ {ds : List D} {ks : List (Sl I64)}, KeysB B ds ks → SeesL B ds (ks.map (sl 1 I))
  | [], [], _ => .nil
  | d :: ds, k :: ks, ⟨⟨l, h1, h2, h3⟩, h4⟩ => fun m hm => by
    have := KeysB.sees h4 m hm
    rw [stripFL_cons, this, h3.sees (by omega) I_len I_mk I_strip m hm, ← h1]; rfl
  | [], _ :: _, h => h.elim
  | _ :: _, [], h => h.elim
/-- A row of the builder's schema: the table that it stands for. B: where its columns, its keys and its checks lie. -/
def RowOk (B : List (List D)) (e : D) (t : Tbl) : Prop := ∃ colsD kds fgnsD chkD b, e = .agg [.str t.name, colsD, accN b 1 kds, fgnsD, chkD] ∧
  (t.cols = cn t.cols.items ∧ BoxS encCol B 6 colsD t.cols.items) ∧ (t.keys = cn t.keys.items ∧ KeysB B kds t.keys.items) ∧ (∀ q, stripF q fgnsD = sl 3 encFgn t.fgns) ∧
  ∃ l : List Ex, t.checks = cn l ∧ l.length ≤ 100 ∧ BoxS encEx B 8 chkD l
/-- What add hands back, and what the builder's memory holds then. -/
def AddQ (s : List TblC) (x : Stm) (es : List D) (g : List (List D)) (r : D) (m : Mem) : Prop := match addI s x with
  | .error e => r = .int .i64 e
  | .ok (ks, fs) => r = .int .i64 0 ∧ ∃ v' g' tk' e, m = ⟨[v'] :: g', tk'⟩ ∧ Own 5 tk' v' (es ++ [e]) ∧ RowOk m.boxes e ⟨x.name, x.cols, cn ks, cn fs, cn x.checks.items⟩ ∧ g <+: g'
/-- What makes the comparison of types go through. -/
def FgOk (all : List TblC) (cols : List Col) (y : Fgn) : Prop := ∃ (u : TblC) (b : Sl I64), atI all y.table.1 = some u ∧ atI u.keys.items y.key.1 = some b ∧ b.items.length ≤ y.cols.items.length ∧ inC cols y.cols.items ∧ inC u.cols.items b.items
theorem FgOk.typ {all : List TblC} {cols : List Col} {y : Fgn} (h : FgOk all cols y) : ∃ (u : TblC) (b : Sl I64), atI all y.table.1 = some u ∧ atI u.keys.items y.key.1 = some b ∧ b.items.length ≤ y.cols.items.length ∧ inC cols y.cols.items ∧ inC u.cols.items b.items ∧
    typB all cols y = typF u.cols.items cols b.items y.cols.items := by
  obtain ⟨u, b, h1, h2, h3, h4, h5⟩ := h
  exact ⟨u, b, h1, h2, h3, h4, h5, by unfold typB; simp only [h1, h2]⟩
theorem fgnOfC_ok {all : List TblC} {cols : List Col} (hc : cols.length < 4611686018427387904) (ha : all.length < 4611686018427387904) {f : FgS} (hf : f.cols.items.length = f.refs.items.length) {y : Fgn} {u : TblC} {b : List I64} (h : fgnOfC (fun p l => fnd p 0 l) all cols f = some (y, u, b)) : FgOk all cols y ∧ typB all cols y = typF cols u.cols.items y.cols.items b := by
  unfold fgnOfC at h
  have hl1 := numsL_len cols f.cols.items []
  have hi1 := numsL_in cols hc f.cols.items []
  generalize numsL cols [] f.cols.items = o1 at *
  have fl := @fnd_some _ (fun t : TblC => t.name == f.table) all 0
  generalize fnd (fun t : TblC => t.name == f.table) 0 all = o2 at *
  cases o1 with
  | none => cases h
  | some a =>
    cases o2 with
    | none => cases h
    | some n =>
      simp only at h
      obtain ⟨_, u0, hu0, _⟩ := fl n rfl
      rw [Nat.sub_zero] at hu0
      rw [hu0] at h
      simp only at h
      have hl2 := numsL_len u0.cols.items f.refs.items []
      have hi2 := numsL_in u0.cols.items u0.cols.lt f.refs.items []
      generalize numsL u0.cols.items [] f.refs.items = o3 at *
      cases o3 with
      | none => cases h
      | some b0 =>
        simp only at h
        have fk := @fnd_some _ (fun k : Sl I64 => eqI k.items b0) u0.keys.items 0
        generalize fnd (fun k : Sl I64 => eqI k.items b0) 0 u0.keys.items = o4 at *
        cases o4 with
        | none => cases h
        | some j =>
          obtain ⟨_, k, hk, hke⟩ := fk j rfl
          rw [Nat.sub_zero] at hk
          have hke := eqI_eq hke
          simp only [Option.some.injEq, Prod.mk.injEq] at h
          obtain ⟨rfl, rfl, rfl⟩ := h
          have h1 := hl1 a rfl
          have h2 := hl2 b0 rfl
          have hal : a.length < 4611686018427387904 := by have := f.cols.lt; simp at h1; omega
          have hn := (List.getElem?_eq_some_iff.1 hu0).1
          have hj := (List.getElem?_eq_some_iff.1 hk).1
          have hkl := u0.keys.lt
          have e1 : atI all (iN n).1 = some u0 := by rw [iN_1 (by omega)]; exact hu0
          have e2 : atI u0.keys.items (iN j).1 = some k := by rw [iN_1 (by omega)]; exact hk
          refine ⟨⟨u0, k, e1, e2, ?_, ?_, ?_⟩, by unfold typB; simp only [e1, e2]; rw [hke, typF_swap]⟩
          · rw [cn_items hal, hke]; simp at h1 h2; omega
          · rw [cn_items hal]; exact hi1 a rfl fun z hz => by cases hz
          · rw [hke]; exact hi2 b0 rfl fun z hz => by cases hz
end Go.Eng
