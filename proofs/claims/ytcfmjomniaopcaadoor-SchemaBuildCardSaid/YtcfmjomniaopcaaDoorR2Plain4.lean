/- A part of the proof: see the last text. -/
import Derived.Test.YtcfmjomniaopcaaDoorR2AddL
import Derived.Test.YtcfmjomniaopcaaDoorR2BldR
import Derived.Test.YtcfmjomniaopcaaDoorR2Valid
set_option linter.unusedSimpArgs false
set_option linter.unusedVariables false
/- What the builder's add computes is what the reference's step computes. -/
namespace Go.Eng
open Go Go.Proofs
theorem fnd_map {α β : Type} (f : α → β) (q : β → Bool) : ∀ (l : List α) (i : Nat), fnd (fun a => q (f a)) i l = fnd q i (l.map f)
  | [], _ => rfl
  | a :: r, i => by
    rw [fnd, List.map_cons, fnd, fnd_map f q r]
/-- What foreign keys and names look at. -/
def kC (t : TblC) : Str × Sl Col × Sl (Sl I64) := (t.name, t.cols, t.keys)
def kT (t : Tbl) : Str × Sl Col × Sl (Sl I64) := (t.name, t.cols, t.keys)
def Rel (s : List TblC) (r : List Tbl) : Prop := s.map kC = r.map kT
theorem Rel.fnd {s : List TblC} {r : List Tbl} (h : Rel s r) (n : Str) : fnd (fun t : TblC => t.name == n) 0 s = fnd (fun t : Tbl => t.name == n) 0 r := by
  have h1 := fnd_map kC (fun k => k.1 == n) s 0
  have h2 := fnd_map kT (fun k => k.1 == n) r 0
  rw [show s.map kC = r.map kT from h] at h1
  exact h1.trans h2.symm
theorem Rel.get {s : List TblC} {r : List Tbl} (h : Rel s r) {i : Nat} {u : TblC} (hu : s[i]? = some u) : ∃ t, r[i]? = some t ∧ kC u = kT t := by
  have := congrArg (fun l => l[i]?) (show s.map kC = r.map kT from h)
  simp only [List.getElem?_map, hu, Option.map_some] at this
  cases hr : r[i]? with
  | none => rw [hr] at this; cases this
  | some t => rw [hr] at this; exact ⟨t, rfl, by simpa using this⟩
theorem Rel.len {s : List TblC} {r : List Tbl} (h : Rel s r) : s.length = r.length := by
  have := congrArg List.length (show s.map kC = r.map kT from h)
  simpa using this
/-- Keys that are pairwise different. -/
def KeysD (l : List (Sl I64)) : Prop := l.Pairwise fun a b => a.items ≠ b.items
theorem lastOf_none {α : Type} (p : α → Bool) : ∀ (l : List α), (∀ x ∈ l, p x = false) → lastOf p l = none
  | [], _ => rfl
  | a :: r, h => by rw [lastOf, lastOf_none p r fun x hx => h x (List.mem_cons_of_mem _ hx), h a List.mem_cons_self]
theorem fnd_none {α : Type} (p : α → Bool) : ∀ (l : List α) (i : Nat), (∀ x ∈ l, p x = false) → fnd p i l = none
  | [], _, _ => rfl
  | a :: r, i, h => by rw [fnd, h a List.mem_cons_self]; exact fnd_none p r _ fun x hx => h x (List.mem_cons_of_mem _ hx)
theorem fnd_last {α : Type} (p : α → Bool) : ∀ (l : List α) (i : Nat), l.Pairwise (fun a b => ¬ (p a = true ∧ p b = true)) → fnd p i l = (lastOf p l).map fun j => i + j
  | [], _, _ => rfl
  | a :: r, i, h => by
    rw [List.pairwise_cons] at h
    rw [fnd, lastOf]
    cases c : p a with
    | true =>
      have : ∀ x ∈ r, p x = false := fun x hx => by
        cases e : p x with
        | false => rfl
        | true => exact absurd ⟨c, e⟩ (h.1 x hx)
      rw [lastOf_none p r this]; rfl
    | false =>
      simp only
      rw [fnd_last p r (i + 1) h.2]
      cases lastOf p r with
      | none => rfl
      | some j => simp only [Option.map_some, Option.some.injEq]; omega
theorem eqI_self (l : List I64) : eqI l l = true := by
  unfold eqI
  induction l with
  | nil => rfl
  | cons a r ih => rw [eqF, ih]; simp
theorem key_last {l : List (Sl I64)} (h : KeysD l) (b : List I64) : fnd (fun k : Sl I64 => eqI k.items b) 0 l = lastOf (fun k : Sl I64 => eqI k.items b) l := by
  rw [fnd_last _ l 0 (h.imp fun {x y} hxy hh => hxy ((eqI_eq hh.1).trans (eqI_eq hh.2).symm))]
  cases lastOf (fun k : Sl I64 => eqI k.items b) l with
  | none => rfl
  | some j => simp
/-- A foreign key, as both find it. -/
theorem fgn_rel {s : List TblC} {r : List Tbl} (h : Rel s r) (hk : ∀ t ∈ r, KeysD t.keys.items) (cols : List Col) (f : FgS) :
    (fgnOfC (fun p l => fnd p 0 l) s cols f = none ∧ fgnOf lastOf r cols f = none) ∨ ∃ g u t b, fgnOfC (fun p l => fnd p 0 l) s cols f = some (g, u, b) ∧ fgnOf lastOf r cols f = some (g, t, b) ∧ u.cols = t.cols := by
  unfold fgnOfC fgnOf
  rw [h.fnd f.table]
  cases numsL cols [] f.cols.items with
  | none => exact .inl ⟨rfl, rfl⟩
  | some a =>
    have fl := @fnd_some _ (fun t : Tbl => t.name == f.table) r 0
    generalize Go.Eng.fnd (fun t : Tbl => t.name == f.table) 0 r = o2 at *
    cases o2 with
    | none => exact .inl ⟨rfl, rfl⟩
    | some n =>
      obtain ⟨_, t, ht, _⟩ := fl n rfl
      rw [Nat.sub_zero] at ht
      have hlt := (List.getElem?_eq_some_iff.1 ht).1
      obtain ⟨u, hu⟩ : ∃ u, s[n]? = some u := ⟨_, List.getElem?_eq_getElem (by rw [h.len]; exact hlt)⟩
      obtain ⟨t', ht', he⟩ := h.get hu
      rw [ht] at ht'; cases ht'
      simp only [kC, kT, Prod.mk.injEq] at he
      obtain ⟨_, hc, hke⟩ := he
      simp only [hu, ht, hc, hke]
      cases numsL t.cols.items [] f.refs.items with
      | none => exact .inl ⟨rfl, rfl⟩
      | some b =>
        simp only
        rw [key_last (hk t (List.mem_of_getElem? ht)) b]
        cases lastOf (fun k : Sl I64 => eqI k.items b) t.keys.items with
        | none => exact .inl ⟨rfl, rfl⟩
        | some j => exact .inr ⟨_, u, t, b, rfl, rfl, hc⟩
theorem fgs_rel {s : List TblC} {r : List Tbl} (h : Rel s r) (hk : ∀ t ∈ r, KeysD t.keys.items) (hs : s.length < 4611686018427387904) (cols : Sl Col) : ∀ (l : List FgS), (∀ f ∈ l, f.cols.items.length = f.refs.items.length) → ∀ (acc : List Fgn) (e : Int),
    (fgsI s cols.items acc l = none ∧ fgsR r cols.items acc e l = none) ∨ ∃ new, fgsI s cols.items acc l = some (acc ++ new) ∧ fgsR r cols.items acc e l = some (acc ++ new, bif new.all (typB s cols.items) then e else 6)
  | [], _, acc, e => .inr ⟨[], by simp [fgsI], by simp [fgsR]⟩
  | f :: l, hf, acc, e => by
    rw [fgsI, fgsR]
    rcases fgn_rel h hk cols.items f with ⟨h1, h2⟩ | ⟨g, u, t, b, h1, h2, h3⟩
    · rw [h1, h2]; exact .inl ⟨rfl, rfl⟩
    · have ht := (fgnOfC_ok cols.lt hs (hf f List.mem_cons_self) h1).2
      rw [h1, h2]
      simp only
      rcases fgs_rel h hk hs cols l (fun f hx => hf f (List.mem_cons_of_mem _ hx)) (acc ++ [g]) (bif typF cols.items t.cols.items g.cols.items b then e else 6) with ⟨g1, g2⟩ | ⟨new, g1, g2⟩
      · exact .inl ⟨g1, g2⟩
      · refine .inr ⟨g :: new, by rw [g1]; simp, ?_⟩
        rw [g2]
        simp only [List.append_assoc, List.singleton_append, Option.some.injEq, Prod.mk.injEq, true_and, List.all_cons]
        rw [ht, h3]
        cases typF cols.items t.cols.items g.cols.items b <;> cases new.all (typB s cols.items) <;> rfl
theorem numsL_names {cols : List Col} (hc : cols.length < 4611686018427387904) : ∀ (l : List Str) (acc r : List I64), numsL cols acc l = some r → ∃ m, r = acc ++ m ∧ l = m.map (nameAt cols)
  | [], acc, r, h => by cases h; exact ⟨[], by simp, rfl⟩
  | n :: t, acc, r, h => by
    rw [numsL] at h
    have fl := @fnd_some _ (fun c : Col => c.name == n) cols 0
    cases hf : fnd (fun c : Col => c.name == n) 0 cols with
    | none => rw [hf] at h; cases h
    | some k =>
      rw [hf] at h
      obtain ⟨_, c, hcc, hn⟩ := fl k hf
      rw [Nat.sub_zero] at hcc
      have hlt := (List.getElem?_eq_some_iff.1 hcc).1
      obtain ⟨m, h1, h2⟩ := numsL_names hc t _ r h
      refine ⟨iN k :: m, by rw [h1]; simp, ?_⟩
      have e : nameAt cols (iN k) = n := by
        unfold nameAt
        rw [iN_1 (by omega), show atI cols (k : Int) = cols[k]? from rfl, hcc]
        simpa using hn
      rw [List.map_cons, e, ← h2]
theorem kdF_pair : ∀ (l seen : List (Sl Str)), kdF seen l = false → (∀ k ∈ l, ∀ o ∈ seen, k.items ≠ o.items) ∧ l.Pairwise (fun a b => a.items ≠ b.items)
  | [], seen, _ => ⟨fun k hk => by simp at hk, List.Pairwise.nil⟩
  | k :: r, seen, h => by
    rw [kdF, Bool.or_eq_false_iff, Bool.or_eq_false_iff] at h
    obtain ⟨⟨_, h1⟩, h2⟩ := h
    obtain ⟨g1, g2⟩ := kdF_pair r _ h2
    have refl : ∀ l : List Str, eqS l l = true := fun l => by
      unfold eqS
      induction l with
      | nil => rfl
      | cons a r ih => rw [eqF, ih]; simp
    refine ⟨fun q hq o ho => ?_, List.pairwise_cons.2 ⟨fun q hq e => ?_, g2⟩⟩
    · rcases List.mem_cons.1 hq with rfl | hq
      · intro e
        have : (seen.any fun o => eqS q.items o.items) = true := List.any_eq_true.2 ⟨o, ho, by rw [e]; exact refl _⟩
        rw [this] at h1; cases h1
      · exact g1 q hq o (List.mem_append_left _ ho)
    · exact g1 q hq k (List.mem_append_right _ List.mem_cons_self) e.symm
theorem keysL_dist {cols : List Col} (hc : cols.length < 4611686018427387904) : ∀ (l : List (Sl Str)) (acc r : List (Sl I64)), keysL cols acc l = some r → ∃ m : List (Sl I64), r = acc ++ m ∧ m.length = l.length ∧ ∀ (i : Nat) (k : Sl Str) (q : Sl I64), l[i]? = some k → m[i]? = some q → k.items = q.items.map (nameAt cols)
  | [], acc, r, h => by cases h; exact ⟨[], by simp, rfl, fun i k q hk => by simp at hk⟩
  | n :: t, acc, r, h => by
    rw [keysL] at h
    have hlen := numsL_len cols n.items []
    have hnm := numsL_names hc n.items []
    cases hf : numsL cols [] n.items with
    | none => rw [hf] at h; cases h
    | some k =>
      rw [hf] at h
      have hl := hlen k hf
      obtain ⟨m0, e0, h0⟩ := hnm k hf
      rw [List.nil_append] at e0; subst e0
      have hkl : k.length < 4611686018427387904 := by have := n.lt; simp at hl; omega
      obtain ⟨m, h1, h2, h3⟩ := keysL_dist hc t _ r h
      refine ⟨cn k :: m, by rw [h1]; simp, by simp [h2], fun i a q ha hq => ?_⟩
      cases i with
      | zero =>
        simp only [List.getElem?_cons_zero, Option.some.injEq] at ha hq
        subst ha; subst hq
        rw [cn_items hkl]; exact h0
      | succ i => exact h3 i a q (by simpa using ha) (by simpa using hq)
theorem keysL_D {cols : List Col} (hc : cols.length < 4611686018427387904) {l : List (Sl Str)} (h : kdF [] l = false) {ks : List (Sl I64)} (hk : keysL cols [] l = some ks) : KeysD ks := by
  obtain ⟨m, h1, h2, h3⟩ := keysL_dist hc l [] ks hk
  rw [List.nil_append] at h1; subst h1
  have hp := (kdF_pair l [] h).2
  rw [List.pairwise_iff_getElem] at hp
  unfold KeysD
  rw [List.pairwise_iff_getElem]
  intro i j hi hj hij e
  have g1 := h3 i l[i] ks[i] (List.getElem?_eq_getElem (by omega)) (List.getElem?_eq_getElem hi)
  have g2 := h3 j l[j] ks[j] (List.getElem?_eq_getElem (by omega)) (List.getElem?_eq_getElem hj)
  exact hp i j (by omega) (by omega) hij (by rw [g1, g2, e])
/-- The two steps agree. -/
theorem step_rel {s : List TblC} {r : List Tbl} (h : Rel s r) (hk : ∀ t ∈ r, KeysD t.keys.items) (hs : s.length ≤ 100) (x : Stm) :
    (∃ e, addI s x = .error e ∧ stepR r x = .error e) ∨ ∃ ks fs, addI s x = .ok (ks, fs) ∧ stepR r x = .ok ⟨x.name, x.cols, cn ks, cn fs, x.checks⟩ ∧ KeysD (cn ks).items := by
  unfold addI stepR
  have hex : exBC s x = exB r x := by unfold exBC exB; rw [h.fnd]
  rw [h.len, hex]
  cases x.kind.1 != 1 with
  | true => exact .inl ⟨1, rfl, rfl⟩
  | false =>
    simp only [cond_false]
    cases decide (8 ≤ r.length) with
    | true => exact .inl ⟨3, rfl, rfl⟩
    | false =>
      simp only [cond_false, Bool.false_or]
      unfold shI
      cases bigB x with
      | true => exact .inl ⟨3, rfl, rfl⟩
      | false =>
        simp only [cond_false]
        cases hok : okB x with
        | false => exact .inl ⟨1, rfl, rfl⟩
        | true =>
          simp only [cond_true, bne_self_eq_false, cond_false]
          cases hexB : exB r x with
          | true => exact .inl ⟨5, rfl, rfl⟩
          | false =>
            simp only [cond_false]
            unfold tabR
            have hkd : kdF [] x.keys.items = false := by
              unfold exB at hexB
              simp only [Bool.or_eq_false_iff] at hexB
              exact hexB.2.2.1
            have hlen := keysL_len x.cols.items x.keys.items []
            have hD := fun ks => keysL_D (ks := ks) x.cols.lt hkd
            cases hks : keysL x.cols.items [] x.keys.items with
            | none => exact .inl ⟨4, rfl, rfl⟩
            | some ks =>
              have hkl : ks.length < 4611686018427387904 := by have := hlen ks hks; have := x.keys.lt; simp at *; omega
              have hKD : KeysD (cn ks).items := by rw [cn_items hkl]; exact hD ks hks
              have hf : ∀ f ∈ x.fgns.items, f.cols.items.length = f.refs.items.length := fun f hf => by
                have h1 : x.fgns.items.all fgB = true := by simp only [okB, Bool.and_eq_true] at hok; exact hok.2.2.2.2
                have h2 : fgB f = true := List.all_eq_true.1 h1 f hf
                simp only [fgB, Bool.and_eq_true, beq_iff_eq] at h2
                omega
              have hrel : Rel (s ++ [(⟨x.name, x.cols, cn ks, nilS, nilC⟩ : TblC)]) (r ++ [(⟨x.name, x.cols, cn ks, nilS, x.checks⟩ : Tbl)]) := by
                unfold Rel
                rw [List.map_append, List.map_append, show s.map kC = r.map kT from h]; rfl
              have hkk : ∀ t ∈ r ++ [(⟨x.name, x.cols, cn ks, nilS, x.checks⟩ : Tbl)], KeysD t.keys.items := fun t ht => by
                rcases List.mem_append.1 ht with ht | ht
                · exact hk t ht
                · obtain rfl : t = _ := by simpa using ht
                  exact hKD
              simp only
              rcases fgs_rel hrel hkk (by simp; omega) x.cols x.fgns.items hf [] 0 with ⟨h1, h2⟩ | ⟨fs, h1, h2⟩
              · rw [h1, h2]; exact .inl ⟨4, rfl, rfl⟩
              · rw [h1, h2]
                simp only [List.nil_append]
                cases fs.all (typB (s ++ [(⟨x.name, x.cols, cn ks, nilS, nilC⟩ : TblC)]) x.cols.items) with
                | false => exact .inl ⟨6, rfl, rfl⟩
                | true => exact .inr ⟨ks, fs, rfl, rfl, hKD⟩
end Go.Eng
