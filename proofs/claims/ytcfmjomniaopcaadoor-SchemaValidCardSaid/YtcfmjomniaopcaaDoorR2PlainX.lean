/- A part of the proof: see the last text. -/
import Derived.Test.YtcfmjomniaopcaaDoorR2PlainW
set_option linter.unusedSimpArgs false
set_option linter.unusedVariables false
/- A schema is valid exactly if it is built out of its definitions. -/
namespace Go.Eng
open Go Go.Proofs
theorem bld_def {s : List Tbl} (hs : ∀ t ∈ s, SmallT t) (hins : insL s 0 s = true) : ∀ (n k : Nat) (r : List Tbl), k + n = s.length → r.length = k → (∀ (i : Nat) (t' u : Tbl), r[i]? = some t' → s[i]? = some u → Alk t' u) →
    (∀ (i : Nat) (u : Tbl), i < k → s[i]? = some u → validB s i u = true) → k ≤ 8 →
    (∃ r', bldF stepR r ((s.drop k).map (defS s)) = .ok r' ∧ r'.length = s.length ∧ (∀ (i : Nat) (t' u : Tbl), r'[i]? = some t' → s[i]? = some u → Alk t' u) ∧ (decide (s.length ≤ 8) && valL s k (s.drop k)) = true) ∨
    ∃ i e, bldF stepR r ((s.drop k).map (defS s)) = .error (i, e) ∧ (e == 0) = false ∧ (decide (s.length ≤ 8) && valL s k (s.drop k)) = false
  | 0, k, r, hk, hr, ha, hv, h8 => by
    rw [List.drop_eq_nil_of_le (by omega)]
    exact .inl ⟨r, rfl, by omega, ha, by rw [decide_eq_true (by omega)]; rfl⟩
  | n + 1, k, r, hk, hr, ha, hv, h8 => by
    obtain ⟨t, ht⟩ : ∃ t, s[k]? = some t := ⟨_, List.getElem?_eq_getElem (by omega)⟩
    rw [dropc ht, List.map_cons, bldF, valL]
    rcases step_def hs hins ht hr ha hv with ⟨t', h1, h2, h3, h4⟩ | ⟨e, h1, h2, h3⟩
    · rw [h1, h3]
      simp only [Bool.true_and]
      refine bld_def hs hins n (k + 1) (r ++ [t']) (by omega) (by simp [hr]) (fun i a u hi hu => ?_) (fun i u hi hu => ?_) (by omega)
      · rcases Nat.lt_or_ge i k with h | h
        · rw [List.getElem?_append_left (by omega)] at hi; exact ha i a u hi hu
        · have hil := (List.getElem?_eq_some_iff.1 hi).1
          obtain rfl : i = k := by simp at hil; omega
          rw [List.getElem?_append_right (by omega), hr, Nat.sub_self] at hi
          have hi : t' = a := by simpa using hi
          rw [ht] at hu; cases hu
          rw [← hi]; exact h2
      · rcases Nat.lt_or_ge i k with h | h
        · exact hv i u h hu
        · obtain rfl : i = k := by omega
          rw [ht] at hu; cases hu
          exact h3
    · rw [h1]
      refine .inr ⟨r.length, e, rfl, h2, ?_⟩
      rcases h3 with h3 | h3
      · rw [h3, Bool.false_and, Bool.and_false]
      · rw [decide_eq_false (by omega), Bool.false_and]
theorem valL_ins {s : List Tbl} : ∀ (l : List Tbl) (k : Nat), valL s k l = true → insL s k l = true
  | [], _, _ => rfl
  | t :: l, k, h => by
    rw [valL, Bool.and_eq_true] at h
    rw [insL, valL_ins l (k + 1) h.2, Bool.and_true, Bool.and_eq_true, List.all_eq_true, List.all_eq_true]
    obtain ⟨_, _, _, _, h1, h2⟩ := validB_iff.1 h.1
    have cof : ∀ {cols : List Col} {l : List I64}, cofB cols l = true → l.all (inB cols.length) = true := fun h => by
      simp only [cofB, Bool.and_eq_true] at h; exact h.2.2
    refine ⟨fun z hz => cof (((keysV_iff _ _).1 h1).1 z hz).1, fun f hf => ?_⟩
    have := List.all_eq_true.1 h2 f hf
    unfold fgV at this
    unfold insF
    rw [Bool.and_eq_true] at this
    rw [cof this.1, Bool.true_and]
    have := this.2
    cases hu : atI s f.table.1 with
    | none => rw [hu] at this; simp at this
    | some u =>
      rw [hu] at this
      simp only at this ⊢
      cases hz : atI u.keys.items f.key.1 with
      | none => rw [hz] at this; simp at this
      | some z =>
        obtain ⟨j, ej, hj⟩ := atI_get hz
        have hlt := (List.getElem?_eq_some_iff.1 hj).1
        rw [hz] at this
        simp only [Bool.and_eq_true, decide_eq_true_eq] at this ⊢
        exact ⟨this.1, this.2.1, this.2.2.1, by omega⟩
theorem valid_same {s : List Tbl} (hs : ∀ t ∈ s, SmallT t) : (decide (s.length ≤ 8) && valL s 0 s) = (insL s 0 s && bOk (bldF stepR [] (s.map (defS s)))) := by
  cases hins : insL s 0 s with
  | false =>
    have : valL s 0 s = false := by
      cases h : valL s 0 s with
      | false => rfl
      | true => rw [valL_ins s 0 h] at hins; cases hins
    rw [this, Bool.and_false]; rfl
  | true =>
    rw [Bool.true_and]
    rcases bld_def hs hins s.length 0 [] (by omega) rfl (fun i t' u h => by simp at h) (fun i u h => by omega) (by omega) with ⟨r', h1, _, _, h2⟩ | ⟨i, e, h1, h2, h3⟩
    · rw [List.drop_zero] at h1 h2
      rw [h1, h2]; rfl
    · rw [List.drop_zero] at h1 h3
      rw [h1, h3]; exact h2.symm
end Go.Eng
