/- A part of the proof: see the last text. -/
import Derived.Test.YtcfmjomniaopcaaDoorR2AddL
import Derived.Test.YtcfmjomniaopcaaDoorR2BldR
import Derived.Test.YtcfmjomniaopcaaDoorR2PlainA
set_option linter.unusedSimpArgs false
set_option linter.unusedVariables false
/- What the builder's add computes is what the reference's step computes. -/
namespace Go.Eng
open Go Go.Proofs
/-- What foreign keys and names look at. -/
def kC (t : TblC) : Str × Sl Col × Sl (Sl I64) := (t.name, t.cols, t.keys)
def kT (t : Tbl) : Str × Sl Col × Sl (Sl I64) := (t.name, t.cols, t.keys)
def Rel (s : List TblC) (r : List Tbl) : Prop := s.map kC = r.map kT
theorem Rel.fnd {s : List TblC} {r : List Tbl} (h : Rel s r) (n : Str) : fnd (fun t : TblC => t.name == n) 0 s = fnd (fun t : Tbl => t.name == n) 0 r := by
  have h1 := fnd_map kC (fun k => k.1 == n) s 0
  have h2 := fnd_map kT (fun k => k.1 == n) r 0
  rw [show s.map kC = r.map kT from h] at h1
  exact h1.trans h2.symm
theorem Rel.get {s : List TblC} {r : List Tbl} (h : Rel s r) {i : Nat} {u : TblC} (hu : s[i]? = some u) : ∃ t, r[i]? = some t ∧ kC u = kT t := by
  have := congrArg (fun l => l[i]?) (show s.map kC = r.map kT from h)
  simp only [List.getElem?_map, hu, Option.map_some] at this
  cases hr : r[i]? with
  | none => rw [hr] at this; cases this
  | some t => rw [hr] at this; exact ⟨t, rfl, by simpa using this⟩
theorem Rel.len {s : List TblC} {r : List Tbl} (h : Rel s r) : s.length = r.length := by
  have := congrArg List.length (show s.map kC = r.map kT from h)
  simpa using this
/-- A foreign key, as both find it. -/
theorem fgn_rel {s : List TblC} {r : List Tbl} (h : Rel s r) (hk : ∀ t ∈ r, KeysD t.keys.items) (cols : List Col) (f : FgS) :
    (fgnOfC (fun p l => fnd p 0 l) s cols f = none ∧ fgnOf lastOf r cols f = none) ∨ ∃ g u t b, fgnOfC (fun p l => fnd p 0 l) s cols f = some (g, u, b) ∧ fgnOf lastOf r cols f = some (g, t, b) ∧ u.cols = t.cols := by
  unfold fgnOfC fgnOf
  rw [h.fnd f.table]
  cases numsL cols [] f.cols.items with
  | none => exact .inl ⟨rfl, rfl⟩
  | some a =>
    have fl := @fnd_some _ (fun t : Tbl => t.name == f.table) r 0
    generalize Go.Eng.fnd (fun t : Tbl => t.name == f.table) 0 r = o2 at *
    cases o2 with
    | none => exact .inl ⟨rfl, rfl⟩
    | some n =>
      obtain ⟨_, t, ht, _⟩ := fl n rfl
      rw [Nat.sub_zero] at ht
      have hlt := (List.getElem?_eq_some_iff.1 ht).1
      obtain ⟨u, hu⟩ : ∃ u, s[n]? = some u := ⟨_, List.getElem?_eq_getElem (by rw [h.len]; exact hlt)⟩
      obtain ⟨t', ht', he⟩ := h.get hu
      rw [ht] at ht'; cases ht'
      simp only [kC, kT, Prod.mk.injEq] at he
      obtain ⟨_, hc, hke⟩ := he
      simp only [hu, ht, hc, hke]
      cases numsL t.cols.items [] f.refs.items with
      | none => exact .inl ⟨rfl, rfl⟩
      | some b =>
        simp only
        rw [key_last (hk t (List.mem_of_getElem? ht)) b]
        cases lastOf (fun k : Sl I64 => eqI k.items b) t.keys.items with
        | none => exact .inl ⟨rfl, rfl⟩
        | some j => exact .inr ⟨_, u, t, b, rfl, rfl, hc⟩
theorem fgs_rel {s : List TblC} {r : List Tbl} (h : Rel s r) (hk : ∀ t ∈ r, KeysD t.keys.items) (hs : s.length < 4611686018427387904) (cols : Sl Col) : ∀ (l : List FgS), (∀ f ∈ l, f.cols.items.length = f.refs.items.length) → ∀ (acc : List Fgn) (e : Int),
    (fgsI s cols.items acc l = none ∧ fgsR r cols.items acc e l = none) ∨ ∃ new, fgsI s cols.items acc l = some (acc ++ new) ∧ fgsR r cols.items acc e l = some (acc ++ new, bif new.all (typB s cols.items) then e else 6)
  | [], _, acc, e => .inr ⟨[], by simp [fgsI], by simp [fgsR]⟩
  | f :: l, hf, acc, e => by
    rw [fgsI, fgsR]
    rcases fgn_rel h hk cols.items f with ⟨h1, h2⟩ | ⟨g, u, t, b, h1, h2, h3⟩
    · rw [h1, h2]; exact .inl ⟨rfl, rfl⟩
    · have ht := (fgnOfC_ok cols.lt hs (hf f List.mem_cons_self) h1).2
      rw [h1, h2]
      simp only
      rcases fgs_rel h hk hs cols l (fun f hx => hf f (List.mem_cons_of_mem _ hx)) (acc ++ [g]) (bif typF cols.items t.cols.items g.cols.items b then e else 6) with ⟨g1, g2⟩ | ⟨new, g1, g2⟩
      · exact .inl ⟨g1, g2⟩
      · refine .inr ⟨g :: new, by rw [g1]; simp, ?_⟩
        rw [g2]
        simp only [List.append_assoc, List.singleton_append, Option.some.injEq, Prod.mk.injEq, true_and, List.all_cons]
        rw [ht, h3]
        cases typF cols.items t.cols.items g.cols.items b <;> cases new.all (typB s cols.items) <;> rfl
/-- The two steps agree. -/
theorem step_rel {s : List TblC} {r : List Tbl} (h : Rel s r) (hk : ∀ t ∈ r, KeysD t.keys.items) (hs : s.length ≤ 100) (x : Stm) :
    (∃ e, addI s x = .error e ∧ stepR r x = .error e) ∨ ∃ ks fs, addI s x = .ok (ks, fs) ∧ stepR r x = .ok ⟨x.name, x.cols, cn ks, cn fs, x.checks⟩ ∧ KeysD (cn ks).items := by
  unfold addI stepR
  have hex : exBC s x = exB r x := by unfold exBC exB; rw [h.fnd]
  rw [h.len, hex]
  cases x.kind.1 != 1 with
  | true => exact .inl ⟨1, rfl, rfl⟩
  | false =>
    simp only [cond_false]
    cases decide (8 ≤ r.length) with
    | true => exact .inl ⟨3, rfl, rfl⟩
    | false =>
      simp only [cond_false, Bool.false_or]
      unfold shI
      cases bigB x with
      | true => exact .inl ⟨3, rfl, rfl⟩
      | false =>
        simp only [cond_false]
        cases hok : okB x with
        | false => exact .inl ⟨1, rfl, rfl⟩
        | true =>
          simp only [cond_true, bne_self_eq_false, cond_false]
          cases hexB : exB r x with
          | true => exact .inl ⟨5, rfl, rfl⟩
          | false =>
            simp only [cond_false]
            unfold tabR
            have hkd : kdF [] x.keys.items = false := by
              unfold exB at hexB
              simp only [Bool.or_eq_false_iff] at hexB
              exact hexB.2.2.1
            have hlen := keysL_len x.cols.items x.keys.items []
            have hD := fun ks => keysL_D (ks := ks) x.cols.lt hkd
            cases hks : keysL x.cols.items [] x.keys.items with
            | none => exact .inl ⟨4, rfl, rfl⟩
            | some ks =>
              have hkl : ks.length < 4611686018427387904 := by have := hlen ks hks; have := x.keys.lt; simp at *; omega
              have hKD : KeysD (cn ks).items := by rw [cn_items hkl]; exact hD ks hks
              have hf : ∀ f ∈ x.fgns.items, f.cols.items.length = f.refs.items.length := fun f hf => by
                have h1 : x.fgns.items.all fgB = true := by simp only [okB, Bool.and_eq_true] at hok; exact hok.2.2.2.2
                have h2 : fgB f = true := List.all_eq_true.1 h1 f hf
                simp only [fgB, Bool.and_eq_true, beq_iff_eq] at h2
                omega
              have hrel : Rel (s ++ [(⟨x.name, x.cols, cn ks, nilS, nilC⟩ : TblC)]) (r ++ [(⟨x.name, x.cols, cn ks, nilS, x.checks⟩ : Tbl)]) := by
                unfold Rel
                rw [List.map_append, List.map_append, show s.map kC = r.map kT from h]; rfl
              have hkk : ∀ t ∈ r ++ [(⟨x.name, x.cols, cn ks, nilS, x.checks⟩ : Tbl)], KeysD t.keys.items := fun t ht => by
                rcases List.mem_append.1 ht with ht | ht
                · exact hk t ht
                · obtain rfl : t = _ := by simpa using ht
                  exact hKD
              simp only
              rcases fgs_rel hrel hkk (by simp; omega) x.cols x.fgns.items hf [] 0 with ⟨h1, h2⟩ | ⟨fs, h1, h2⟩
              · rw [h1, h2]; exact .inl ⟨4, rfl, rfl⟩
              · rw [h1, h2]
                simp only [List.nil_append]
                cases fs.all (typB (s ++ [(⟨x.name, x.cols, cn ks, nilS, nilC⟩ : TblC)]) x.cols.items) with
                | false => exact .inl ⟨6, rfl, rfl⟩
                | true => exact .inr ⟨ks, fs, rfl, rfl, hKD⟩
end Go.Eng
