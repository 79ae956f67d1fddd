/- A part of the proof: see the last text. -/
import Derived.Test.YtcfmjomniaopcaaDoorR2Valid
import Derived.Test.YtcfmjomniaopcaaDoorKR2Same
set_option linter.unusedSimpArgs false
set_option linter.unusedVariables false
/- First and last places, names and numbers. -/
namespace Go.Eng
open Go Go.Proofs
theorem fnd_map {α β : Type} (f : α → β) (q : β → Bool) : ∀ (l : List α) (i : Nat), fnd (fun a => q (f a)) i l = fnd q i (l.map f)
  | [], _ => rfl
  | a :: r, i => by
    rw [fnd, List.map_cons, fnd, fnd_map f q r]
/-- Keys that are pairwise different. -/
def KeysD (l : List (Sl I64)) : Prop := l.Pairwise fun a b => a.items ≠ b.items
theorem lastOf_none {α : Type} (p : α → Bool) : ∀ (l : List α), (∀ x ∈ l, p x = false) → lastOf p l = none
  | [], _ => rfl
  | a :: r, h => by rw [lastOf, lastOf_none p r fun x hx => h x (List.mem_cons_of_mem _ hx), h a List.mem_cons_self]
theorem fnd_last {α : Type} (p : α → Bool) : ∀ (l : List α) (i : Nat), l.Pairwise (fun a b => ¬ (p a = true ∧ p b = true)) → fnd p i l = (lastOf p l).map fun j => i + j
  | [], _, _ => rfl
  | a :: r, i, h => by
    rw [List.pairwise_cons] at h
    rw [fnd, lastOf]
    cases c : p a with
    | true =>
      have : ∀ x ∈ r, p x = false := fun x hx => by
        cases e : p x with
        | false => rfl
        | true => exact absurd ⟨c, e⟩ (h.1 x hx)
      rw [lastOf_none p r this]; rfl
    | false =>
      simp only
      rw [fnd_last p r (i + 1) h.2]
      cases lastOf p r with
      | none => rfl
      | some j => simp only [Option.map_some, Option.some.injEq]; omega
theorem key_last {l : List (Sl I64)} (h : KeysD l) (b : List I64) : fnd (fun k : Sl I64 => eqI k.items b) 0 l = lastOf (fun k : Sl I64 => eqI k.items b) l := by
  rw [fnd_last _ l 0 (h.imp fun {x y} hxy hh => hxy ((eqI_eq hh.1).trans (eqI_eq hh.2).symm))]
  cases lastOf (fun k : Sl I64 => eqI k.items b) l with
  | none => rfl
  | some j => simp
theorem numsL_names {cols : List Col} (hc : cols.length < 4611686018427387904) : ∀ (l : List Str) (acc r : List I64), numsL cols acc l = some r → ∃ m, r = acc ++ m ∧ l = m.map (nameAt cols)
  | [], acc, r, h => by cases h; exact ⟨[], by simp, rfl⟩
  | n :: t, acc, r, h => by
    rw [numsL] at h
    have fl := @fnd_some _ (fun c : Col => c.name == n) cols 0
    cases hf : fnd (fun c : Col => c.name == n) 0 cols with
    | none => rw [hf] at h; cases h
    | some k =>
      rw [hf] at h
      obtain ⟨_, c, hcc, hn⟩ := fl k hf
      rw [Nat.sub_zero] at hcc
      have hlt := (List.getElem?_eq_some_iff.1 hcc).1
      obtain ⟨m, h1, h2⟩ := numsL_names hc t _ r h
      refine ⟨iN k :: m, by rw [h1]; simp, ?_⟩
      have e : nameAt cols (iN k) = n := by
        unfold nameAt
        rw [iN_1 (by omega), show atI cols (k : Int) = cols[k]? from rfl, hcc]
        simpa using hn
      rw [List.map_cons, e, ← h2]
theorem kdF_pair : ∀ (l seen : List (Sl Str)), kdF seen l = false → (∀ k ∈ l, ∀ o ∈ seen, k.items ≠ o.items) ∧ l.Pairwise (fun a b => a.items ≠ b.items)
  | [], seen, _ => ⟨fun k hk => by simp at hk, List.Pairwise.nil⟩
  | k :: r, seen, h => by
    rw [kdF, Bool.or_eq_false_iff, Bool.or_eq_false_iff] at h
    obtain ⟨⟨_, h1⟩, h2⟩ := h
    obtain ⟨g1, g2⟩ := kdF_pair r _ h2
    have refl : ∀ l : List Str, eqS l l = true := fun l => by
      unfold eqS
      induction l with
      | nil => rfl
      | cons a r ih => rw [eqF, ih]; simp
    refine ⟨fun q hq o ho => ?_, List.pairwise_cons.2 ⟨fun q hq e => ?_, g2⟩⟩
    · rcases List.mem_cons.1 hq with rfl | hq
      · intro e
        have : (seen.any fun o => eqS q.items o.items) = true := List.any_eq_true.2 ⟨o, ho, by rw [e]; exact refl _⟩
        rw [this] at h1; cases h1
      · exact g1 q hq o (List.mem_append_left _ ho)
    · exact g1 q hq k (List.mem_append_right _ List.mem_cons_self) e.symm
theorem keysL_dist {cols : List Col} (hc : cols.length < 4611686018427387904) : ∀ (l : List (Sl Str)) (acc r : List (Sl I64)), keysL cols acc l = some r → ∃ m : List (Sl I64), r = acc ++ m ∧ m.length = l.length ∧ ∀ (i : Nat) (k : Sl Str) (q : Sl I64), l[i]? = some k → m[i]? = some q → k.items = q.items.map (nameAt cols)
  | [], acc, r, h => by cases h; exact ⟨[], by simp, rfl, fun i k q hk => by simp at hk⟩
  | n :: t, acc, r, h => by
    rw [keysL] at h
    have hlen := numsL_len cols n.items []
    have hnm := numsL_names hc n.items []
    cases hf : numsL cols [] n.items with
    | none => rw [hf] at h; cases h
    | some k =>
      rw [hf] at h
      have hl := hlen k hf
      obtain ⟨m0, e0, h0⟩ := hnm k hf
      rw [List.nil_append] at e0; subst e0
      have hkl : k.length < 4611686018427387904 := by have := n.lt; simp at hl; omega
      obtain ⟨m, h1, h2, h3⟩ := keysL_dist hc t _ r h
      refine ⟨cn k :: m, by rw [h1]; simp, by simp [h2], fun i a q ha hq => ?_⟩
      cases i with
      | zero =>
        simp only [List.getElem?_cons_zero, Option.some.injEq] at ha hq
        subst ha; subst hq
        rw [cn_items hkl]; exact h0
      | succ i => exact h3 i a q (by simpa using ha) (by simpa using hq)
theorem keysL_D {cols : List Col} (hc : cols.length < 4611686018427387904) {l : List (Sl Str)} (h : kdF [] l = false) {ks : List (Sl I64)} (hk : keysL cols [] l = some ks) : KeysD ks := by
  obtain ⟨m, h1, h2, h3⟩ := keysL_dist hc l [] ks hk
  rw [List.nil_append] at h1; subst h1
  have hp := (kdF_pair l [] h).2
  rw [List.pairwise_iff_getElem] at hp
  unfold KeysD
  rw [List.pairwise_iff_getElem]
  intro i j hi hj hij e
  have g1 := h3 i l[i] ks[i] (List.getElem?_eq_getElem (by omega)) (List.getElem?_eq_getElem hi)
  have g2 := h3 j l[j] ks[j] (List.getElem?_eq_getElem (by omega)) (List.getElem?_eq_getElem hj)
  exact hp i j (by omega) (by omega) hij (by rw [g1, g2, e])
end Go.Eng
