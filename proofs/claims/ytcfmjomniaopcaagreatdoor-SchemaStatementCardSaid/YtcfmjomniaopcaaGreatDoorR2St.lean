/- A part of the proof: see the last text. -/
import Derived.Test.YtcfmjomniaopcaaGreatDoorKR2PlainY
import Derived.Test.YtcfmjomniaopcaaGreatDoorR2Same
set_option linter.unusedSimpArgs false
set_option linter.unusedVariables false
/- Statements that are alike. -/
namespace Go.Eng
open Go Go.Proofs
def AlikeG (f g : FgS) : Prop := f.cols.items = g.cols.items ∧ f.table = g.table ∧ f.refs.items = g.refs.items
def AlikeS (a b : Stm) : Prop := a.kind.1 = b.kind.1 ∧ a.name = b.name ∧ a.cols.items = b.cols.items ∧ a.checks.items = b.checks.items ∧ AlikeL (fun x y : Sl Str => x.items = y.items) a.keys.items b.keys.items ∧ AlikeL AlikeG a.fgns.items b.fgns.items
def stS (s : List Tbl) (t : Tbl) : Stm := ⟨one, t.name, t.cols, cn (t.keys.items.map (kn t)), cn (t.fgns.items.map (fgS s t)), cn t.checks.items, zeroRest⟩
def zeroS : Stm := ⟨⟨0, by decide⟩, [], nilS, nilS, nilS, nilS, zeroRest⟩
theorem eqS_refl (l : List Str) : eqS l l = true := eqF_refl (fun a => by simp) l
theorem fgS_re (s : List Tbl) (t : Tbl) (f : Fgn) : fgS (s.map reT) (reT t) f = fgS s t f := by
  unfold fgS
  have : atI (s.map reT) f.table.1 = (atI s f.table.1).map reT := by cases f.table.1 <;> simp [atI]
  rw [this]
  cases atI s f.table.1 <;> rfl
theorem stS_def (s : List Tbl) (t : Tbl) : stS s t = defS (s.map reT) (reT t) := by
  unfold stS defS
  rw [show fgS (s.map reT) (reT t) = fgS s t from funext fun f => fgS_re s t f]
  rfl
theorem alike_st (s : List Tbl) (t : Tbl) : AlikeS (stS s t) (defS s t) := by
  refine ⟨rfl, rfl, rfl, cn_items t.checks.lt, ⟨rfl, fun i x y hx hy => ?_⟩, ⟨rfl, fun i x y hx hy => ?_⟩⟩
  · have hx : (cn (t.keys.items.map (kn t))).items[i]? = some x := hx
    have hy : (cn (t.keys.items.map (kn t))).items[i]? = some y := hy
    rw [hx] at hy; cases hy; rfl
  · have hx : (cn (t.fgns.items.map (fgS s t))).items[i]? = some x := hx
    have hy : (cn (t.fgns.items.map (fgS s t))).items[i]? = some y := hy
    rw [hx] at hy; cases hy; exact ⟨rfl, rfl, rfl⟩
/-- A statement, stored. -/
theorem setStm (x : Stm) : setRow [.int .i64 x.kind.1, .str x.name, sl 6 encCol x.cols, sl 1 (sl 1 S) x.keys, sl 3 encFgS x.fgns, sl 8 encEx x.checks, .nil, .nil, .nil, .nil, .int .i64 0, .str [], .str [], .int .i64 0, .int .i64 0, .int .i64 0, .str [], .nil, .nil, .nil, .int .i64 0, .str []] 6 x.rest.1 = .int .i64 x.kind.1 :: .str x.name :: sl 6 encCol x.cols :: sl 1 (sl 1 S) x.keys :: sl 3 encFgS x.fgns :: sl 8 encEx x.checks :: x.rest.1 :=
  (setRow_append_right [.nil, .nil, .nil, .nil, .int .i64 0, .str [], .str [], .int .i64 0, .int .i64 0, .int .i64 0, .str [], .nil, .nil, .nil, .int .i64 0, .str []] x.rest.1 [.int .i64 x.kind.1, .str x.name, sl 6 encCol x.cols, sl 1 (sl 1 S) x.keys, sl 3 encFgS x.fgns, sl 8 encEx x.checks] 0).trans (by
    have h2 := setRow_whole [] x.rest.1 [.nil, .nil, .nil, .nil, .int .i64 0, .str [], .str [], .int .i64 0, .int .i64 0, .int .i64 0, .str [], .nil, .nil, .nil, .int .i64 0, .str []] (by rw [rest_len]; rfl)
    rw [List.append_nil, List.append_nil] at h2
    rw [h2]; rfl)
theorem valL_at {s : List Tbl} : ∀ (l : List Tbl) (k : Nat), valL s k l = true → ∀ (i : Nat) (t : Tbl), l[i]? = some t → validB s (k + i) t = true
  | [], _, _, i, t, h => by simp at h
  | a :: r, k, h, i, t, ht => by
    rw [valL, Bool.and_eq_true] at h
    cases i with
    | zero => simp at ht; subst ht; exact h.1
    | succ i =>
      have := valL_at r (k + 1) h.2 i t (by simpa using ht)
      rw [show k + (i + 1) = k + 1 + i by omega]; exact this
theorem alikeS_refl (a : Stm) : AlikeS a a :=
  ⟨rfl, rfl, rfl, rfl, ⟨rfl, fun i x y hx hy => by rw [hx] at hy; cases hy; rfl⟩, ⟨rfl, fun i x y hx hy => by rw [hx] at hy; cases hy; exact ⟨rfl, rfl, rfl⟩⟩⟩
/-- What Build makes of the statements of a valid schema. -/
theorem restored {s : List Tbl} (hs : ∀ t ∈ s, SmallT t) (hv : (decide (s.length ≤ 8) && valL s 0 s) = true) : ∃ r, bldF stepR [] (s.map (stS s)) = .ok r ∧ r.length = s.length ∧ AlikeL AlikeT s (r.map reT) := by
  rw [Bool.and_eq_true, decide_eq_true_eq] at hv
  have hs' : ∀ t ∈ s.map reT, SmallT t := fun t ht => by
    obtain ⟨t0, h0, rfl⟩ := List.mem_map.1 ht
    exact smallT_re (hs t0 h0)
  have hv' : valL (s.map reT) 0 (s.map reT) = true := by rw [valL_re]; exact hv.2
  have hm : s.map (stS s) = (s.map reT).map (defS (s.map reT)) := by
    rw [List.map_map]
    exact List.map_congr_left fun t _ => stS_def s t
  rw [hm]
  rcases bld_def hs' (valL_ins _ _ hv') (s.map reT).length 0 [] (by omega) rfl (fun i t' u h => by simp at h) (fun i u h => by omega) (by omega) with ⟨r, h1, h2, h3, _⟩ | ⟨i, e, _, _, h⟩
  · rw [List.drop_zero] at h1
    have h2 : r.length = s.length := by rw [h2, List.length_map]
    refine ⟨r, h1, h2, by rw [List.length_map]; exact h2.symm, fun i x y hx hy => ?_⟩
    rw [List.getElem?_map] at hy
    obtain ⟨w, hw, rfl⟩ := Option.map_eq_some_iff.1 hy
    have hA := h3 i w (reT x) hw (by rw [List.getElem?_map, hx]; rfl)
    refine ⟨hA.name.symm, congrArg Sl.items hA.cols.symm, ?_, ?_, ?_⟩
    · show x.checks.items = (cn w.checks.items).items
      rw [cn_items w.checks.lt, hA.checks]
      exact (cn_items x.checks.lt).symm
    · have hk : w.keys.items.map Sl.items = x.keys.items.map Sl.items := hA.keys
      refine ⟨by have := congrArg List.length hk; rw [List.length_map, List.length_map] at this; exact this.symm, fun j a b ha hb => ?_⟩
      have hb : w.keys.items[j]? = some b := hb
      have := congrArg (fun l => l[j]?) hk
      simp only [List.getElem?_map, ha, hb, Option.map_some, Option.some.injEq] at this
      exact this.symm
    · have hf : AlikeL AlikeF w.fgns.items x.fgns.items := hA.fgns
      refine ⟨hf.1.symm, fun j a b ha hb => ?_⟩
      have hb : w.fgns.items[j]? = some b := hb
      have := hf.2 j b a hb ha
      exact ⟨this.1.symm, this.2.1.symm, this.2.2.symm⟩
  · rw [List.drop_zero, hv', Bool.and_true, List.length_map, decide_eq_true hv.1] at h
    cases h
theorem stS_small {s : List Tbl} (hs : ∀ t ∈ s, SmallT t) (hv : (decide (s.length ≤ 8) && valL s 0 s) = true) : ∀ x ∈ s.map (stS s), SmallS x := fun x hx => by
  rw [Bool.and_eq_true] at hv
  obtain ⟨t, ht, rfl⟩ := List.mem_map.1 hx
  have hs' : ∀ t ∈ s.map reT, SmallT t := fun t ht => by
    obtain ⟨t0, h0, rfl⟩ := List.mem_map.1 ht
    exact smallT_re (hs t0 h0)
  have hv' : valL (s.map reT) 0 (s.map reT) = true := by rw [valL_re]; exact hv.2
  rw [stS_def]
  have ht' : reT t ∈ s.map reT := List.mem_map_of_mem ht
  obtain ⟨i, hi⟩ := List.mem_iff_getElem?.1 ht'
  exact defS_small hs' ht' (insL_ok hs' (valL_ins _ _ hv') hi).2
end Go.Eng
