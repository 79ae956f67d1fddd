/- A part of the proof: see the last text. -/
import Derived.Test.YtcfmjomniaopcaaGreatDoorR2Add1
import Derived.Test.YtcfmjomniaopcaaGreatDoorR2Base
set_option linter.unusedSimpArgs false
set_option linter.unusedVariables false
/- The builder's add. -/
namespace Go.Eng
open Go Go.Proofs
/-- The foreign keys of a definition. -/
def fgsI (s : List TblC) (cols : List Col) (acc : List Fgn) : List FgS → Option (List Fgn)
  | [] => some acc
  | f :: r => match fgnOfC (fun p l => fnd p 0 l) s cols f with
    | some (g, _, _) => fgsI s cols (acc ++ [g]) r
    | none => none
def typB (s : List TblC) (cols : List Col) (f : Fgn) : Bool := match atI s f.table.1 with
  | some u => (match atI u.keys.items f.key.1 with
    | some b => typF u.cols.items cols b.items f.cols.items
    | none => false)
  | none => false
def nilC : Cell := ⟨.nil, fun _ => rfl, rfl, rfl⟩
/-- What add says, and what it adds: the keys and the foreign keys. -/
def addI (s : List TblC) (x : Stm) : Except Int (List (Sl I64) × List Fgn) :=
  bif x.kind.1 != 1 then .error 1 else bif decide (8 ≤ s.length) then .error 3 else bif shI x != 0 then .error (shI x) else bif exBC s x then .error 5 else
    match keysL x.cols.items [] x.keys.items with
    | some ks => (match fgsI (s ++ [⟨x.name, x.cols, cn ks, nilS, nilC⟩]) x.cols.items [] x.fgns.items with
      | some fs => (match fs.all (typB (s ++ [⟨x.name, x.cols, cn ks, nilS, nilC⟩]) x.cols.items) with
        | true => .ok (ks, fs)
        | false => .error 6)
      | none => .error 4)
    | none => .error 4
/-- A slice that may be appended to: the elements, and their token. -/
def Own (k : Nat) (tk : List Nat) (v : D) (es : List D) : Prop := (v = .nil ∧ es = []) ∨ ∃ id, v = .slice (some (id + 1)) k es ∧ es ≠ [] ∧ tk[id]? = some es.length
theorem Own.ok {k : Nat} {tk : List Nat} {v : D} {es : List D} (h : Own k tk v es) : v.okC = true := by
  rcases h with ⟨rfl, _⟩ | ⟨id, rfl, _⟩ <;> rfl
theorem Own.cells {k : Nat} {tk : List Nat} {v : D} {es : List D} (h : Own k tk v es) : v.cells = [v] := by
  rcases h with ⟨rfl, _⟩ | ⟨id, rfl, _⟩ <;> rfl
theorem Own.elems {k : Nat} {tk : List Nat} {v : D} {es : List D} (h : Own k tk v es) (m : Mem) : elemsOf m k v = some es := by
  rcases h with ⟨rfl, rfl⟩ | ⟨id, rfl, _⟩
  · rfl
  · simp [elemsOf]
theorem Own.len {k : Nat} {tk : List Nat} {v : D} {es : List D} (h : Own k tk v es) (P : Program) (u : Nat) : lenT P u v = match sliceElem P u with | some _ => some es.length | none => none := by
  rcases h with ⟨rfl, rfl⟩ | ⟨id, rfl, _⟩
  · exact lenT_nil P u
  · exact lenT_slice P u _ _ _
theorem Own.strip {k : Nat} {tk : List Nat} {v : D} {es : List D} (h : Own k tk v es) (g : Nat → Nat → Nat → Nat → D) : stripF g v = outD k (stripFL g es) := by
  rcases h with ⟨rfl, rfl⟩ | ⟨id, rfl, h, _⟩
  · rfl
  · cases es with
    | nil => exact absurd rfl h
    | cons a r => simp only [stripF_slice, stripFL_cons, outD]
/-- Behind more tokens it is as before. -/
theorem Own.grow {k : Nat} {tk tk' : List Nat} {v : D} {es : List D} (h : Own k tk v es) (ht : ∀ (i n : Nat), tk[i]? = some n → tk'[i]? = some n) : Own k tk' v es := by
  rcases h with h | ⟨id, h1, h2, h3⟩
  · exact .inl h
  · exact .inr ⟨id, h1, h2, ht _ _ h3⟩
theorem Own.app {k : Nat} {tk : List Nat} {v : D} {es : List D} (h : Own k tk v es) (b : List (List D)) (x : D) (xs : List D) : ∃ v' tk', appendD k ⟨b, tk⟩ v (x :: xs) = some (v', ⟨b, tk'⟩) ∧ Own k tk' v' (es ++ x :: xs) := by
  rcases h with ⟨rfl, rfl⟩ | ⟨id, rfl, h2, h3⟩
  · exact ⟨_, _, app_nil .., .inr ⟨tk.length, rfl, by simp, by simp⟩⟩
  · have hid := (List.getElem?_eq_some_iff.1 h3).1
    refine ⟨.slice (some (id + 1)) k (es ++ x :: xs), tk.set id (es ++ x :: xs).length, ?_, .inr ⟨id, rfl, by simp, ?_⟩⟩
    · simp only [appendD, h3]
      simp
    · rw [List.getElem?_set_self hid]
theorem accM_get {b : List Nat} {l : List D} {i n : Nat} (h : b[i]? = some n) : (accM b l)[i]? = some n := by
  cases l with
  | nil => exact h
  | cons a r =>
    have := (List.getElem?_eq_some_iff.1 h).1
    rw [accM, List.getElem?_append_left this]; exact h
end Go.Eng
/- The builder's add: what the walk needs. -/
namespace Go.Eng
open Go Go.Proofs
/-- The builder's memory, from add's boxes on: the new schema, the table (its checks), the closure, the rows of checks. -/
def mB (B : List (List D)) (a : List D) (f : D → List D) (fn : List D) (c : D) (cb : List (List D)) : List (List D) := B ++ (a :: f c :: fn :: cb)
section
variable {B : List (List D)} {a : List D} {f : D → List D} {fn : List D} {c : D} {cb : List (List D)}
theorem mB_len : (mB B a f fn c cb).length = B.length + 3 + cb.length := by simp [mB]; omega
theorem mB_a : (mB B a f fn c cb)[B.length]? = some a := by simp [mB]
theorem mB_t : (mB B a f fn c cb)[B.length + 1]? = some (f c) := by
  rw [mB, List.getElem?_append_right (by omega)]; simp
theorem mB_old {i : Nat} {r : List D} (h : B[i]? = some r) : (mB B a f fn c cb)[i]? = some r := by
  have := (List.getElem?_eq_some_iff.1 h).1
  rw [mB, List.getElem?_append_left this]; exact h
theorem mB_c (i : Nat) : (mB B a f fn c cb)[B.length + 3 + i]? = cb[i]? := by
  rw [mB, List.getElem?_append_right (by omega), show B.length + 3 + i - B.length = i + 3 by omega]; rfl
theorem mB_app (z : List D) : mB B a f fn c cb ++ [z] = mB B a f fn c (cb ++ [z]) := by simp [mB]
theorem mB_set (i : Nat) (z : List D) : (mB B a f fn c cb).set (B.length + 3 + i) z = mB B a f fn c (cb.set i z) := by
  rw [mB, List.set_append_right _ _ (by omega), show B.length + 3 + i - B.length = i + 3 by omega]; rfl
theorem mB_tab (c' : D) : (mB B a f fn c cb).set (B.length + 1) (f c') = mB B a f fn c' cb := by
  rw [mB, List.set_append_right _ _ (by omega), show B.length + 1 - B.length = 1 by omega]; rfl
theorem mB_out : (mB B a f fn c cb)[B.length + 3 + cb.length]? = none := by
  rw [mB_c]; simp
end
/-- A row of the builder's schema: the table that it stands for. m: where its checks lie. -/
def RowOk (m : Mem) (e : D) (t : Tbl) : Prop := ∃ colsD keysD fgnsD chkD, e = .agg [.str t.name, colsD, keysD, fgnsD, chkD] ∧
  (∀ q, stripF q colsD = sl 6 encCol t.cols) ∧ (∀ q, stripF q keysD = sl 1 (sl 1 I) t.keys) ∧ (∀ q, stripF q fgnsD = sl 3 encFgn t.fgns) ∧
  ∃ l : List Ex, t.checks = cn l ∧ l.length ≤ 100 ∧ ((l = [] ∧ chkD = .nil) ∨ (l ≠ [] ∧ ∃ id, 0 < id ∧ chkD = .rsl id 0 l.length 8 ∧ m.boxes[id]? = some (flat (l.map encEx))))
/-- What add hands back, and what the builder's memory holds then. -/
def AddQ (s : List TblC) (x : Stm) (es : List D) (g : List (List D)) (r : D) (m : Mem) : Prop := match addI s x with
  | .error e => r = .int .i64 e
  | .ok (ks, fs) => r = .int .i64 0 ∧ ∃ v' g' tk' e, m = ⟨[v'] :: g', tk'⟩ ∧ Own 5 tk' v' (es ++ [e]) ∧ RowOk m e ⟨x.name, x.cols, cn ks, cn fs, cn x.checks.items⟩ ∧ g <+: g'
/-- What makes the comparison of types go through. -/
def FgOk (all : List TblC) (cols : List Col) (y : Fgn) : Prop := ∃ (u : TblC) (b : Sl I64), atI all y.table.1 = some u ∧ atI u.keys.items y.key.1 = some b ∧ b.items.length ≤ y.cols.items.length ∧ inC cols y.cols.items ∧ inC u.cols.items b.items
theorem FgOk.typ {all : List TblC} {cols : List Col} {y : Fgn} (h : FgOk all cols y) : ∃ (u : TblC) (b : Sl I64), atI all y.table.1 = some u ∧ atI u.keys.items y.key.1 = some b ∧ b.items.length ≤ y.cols.items.length ∧ inC cols y.cols.items ∧ inC u.cols.items b.items ∧
    typB all cols y = typF u.cols.items cols b.items y.cols.items := by
  obtain ⟨u, b, h1, h2, h3, h4, h5⟩ := h
  exact ⟨u, b, h1, h2, h3, h4, h5, by unfold typB; simp only [h1, h2]⟩
theorem fgnOfC_ok {all : List TblC} {cols : List Col} (hc : cols.length < 4611686018427387904) (ha : all.length < 4611686018427387904) {f : FgS} (hf : f.cols.items.length = f.refs.items.length) {y : Fgn} {u : TblC} {b : List I64} (h : fgnOfC (fun p l => fnd p 0 l) all cols f = some (y, u, b)) : FgOk all cols y ∧ typB all cols y = typF cols u.cols.items y.cols.items b := by
  unfold fgnOfC at h
  have hl1 := numsL_len cols f.cols.items []
  have hi1 := numsL_in cols hc f.cols.items []
  generalize numsL cols [] f.cols.items = o1 at *
  have fl := @fnd_some _ (fun t : TblC => t.name == f.table) all 0
  generalize fnd (fun t : TblC => t.name == f.table) 0 all = o2 at *
  cases o1 with
  | none => cases h
  | some a =>
    cases o2 with
    | none => cases h
    | some n =>
      simp only at h
      obtain ⟨_, u0, hu0, _⟩ := fl n rfl
      rw [Nat.sub_zero] at hu0
      rw [hu0] at h
      simp only at h
      have hl2 := numsL_len u0.cols.items f.refs.items []
      have hi2 := numsL_in u0.cols.items u0.cols.lt f.refs.items []
      generalize numsL u0.cols.items [] f.refs.items = o3 at *
      cases o3 with
      | none => cases h
      | some b0 =>
        simp only at h
        have fk := @fnd_some _ (fun k : Sl I64 => eqI k.items b0) u0.keys.items 0
        generalize fnd (fun k : Sl I64 => eqI k.items b0) 0 u0.keys.items = o4 at *
        cases o4 with
        | none => cases h
        | some j =>
          obtain ⟨_, k, hk, hke⟩ := fk j rfl
          rw [Nat.sub_zero] at hk
          have hke := eqI_eq hke
          simp only [Option.some.injEq, Prod.mk.injEq] at h
          obtain ⟨rfl, rfl, rfl⟩ := h
          have h1 := hl1 a rfl
          have h2 := hl2 b0 rfl
          have hal : a.length < 4611686018427387904 := by have := f.cols.lt; simp at h1; omega
          have hn := (List.getElem?_eq_some_iff.1 hu0).1
          have hj := (List.getElem?_eq_some_iff.1 hk).1
          have hkl := u0.keys.lt
          have e1 : atI all (iN n).1 = some u0 := by rw [iN_1 (by omega)]; exact hu0
          have e2 : atI u0.keys.items (iN j).1 = some k := by rw [iN_1 (by omega)]; exact hk
          refine ⟨⟨u0, k, e1, e2, ?_, ?_, ?_⟩, by unfold typB; simp only [e1, e2]; rw [hke, typF_swap]⟩
          · rw [cn_items hal, hke]; simp at h1 h2; omega
          · rw [cn_items hal]; exact hi1 a rfl fun z hz => by cases hz
          · rw [hke]; exact hi2 b0 rfl fun z hz => by cases hz
end Go.Eng
