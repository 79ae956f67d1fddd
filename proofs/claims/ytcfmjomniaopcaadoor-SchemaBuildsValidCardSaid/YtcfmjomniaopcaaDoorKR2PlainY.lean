/- A part of the proof: see the last text. -/
import Derived.Test.YtcfmjomniaopcaaDoorR2RefV
import Derived.Test.YtcfmjomniaopcaaDoorR2PlainA
import Derived.Test.YtcfmjomniaopcaaDoorR2Bld21
set_option linter.unusedSimpArgs false
set_option linter.unusedVariables false
/- A schema is valid exactly if the reference builds it out of its definitions. -/
namespace Go.Eng
open Go Go.Proofs
theorem dupF_iff {α : Type} {e : α → α → Bool} (he : ∀ a b, e a b = true ↔ a = b) : ∀ (l seen : List α), dupF e seen l = false ↔ (∀ a ∈ l, a ∉ seen) ∧ l.Nodup
  | [], seen => ⟨fun _ => ⟨fun a h => (by cases h), List.nodup_nil⟩, fun _ => rfl⟩
  | a :: r, seen => by
    rw [dupF, Bool.or_eq_false_iff, dupF_iff he r]
    have h0 : (seen.any fun s => e a s) = false ↔ a ∉ seen := by
      rw [← Bool.not_eq_true, List.any_eq_true]
      constructor
      · intro h hm; exact h ⟨a, hm, (he a a).2 rfl⟩
      · rintro h ⟨b, hb, hab⟩; rw [(he a b).1 hab] at h; exact h hb
    rw [h0, List.nodup_cons]
    constructor
    · rintro ⟨h1, h2, h3⟩
      refine ⟨fun b hb => ?_, fun h => h2 a h (List.mem_append_right _ (List.mem_singleton.2 rfl)), h3⟩
      rcases List.mem_cons.1 hb with rfl | hb
      · exact h1
      · exact fun h => h2 b hb (List.mem_append_left _ h)
    · rintro ⟨h1, h2, h3⟩
      refine ⟨h1 a List.mem_cons_self, fun b hb h => ?_, h3⟩
      rcases List.mem_append.1 h with h | h
      · exact h1 b (List.mem_cons_of_mem _ hb) h
      · rw [List.mem_singleton.1 h] at hb; exact h2 hb
theorem dupS_iff (l : List Str) : dupS l = false ↔ l.Nodup := by
  have := dupF_iff (e := fun a b : Str => a == b) (fun a b => beq_iff_eq) l []
  unfold dupS
  rw [this]
  exact ⟨fun h => h.2, fun h => ⟨fun a _ h => (by cases h), h⟩⟩
theorem dupI_iff (l : List I64) : dupI l = false ↔ l.Nodup := by
  have := dupF_iff (e := fun a b : I64 => a.1 == b.1) (fun a b => ⟨fun h => Subtype.ext (by simpa using h), fun h => by rw [h]; simp⟩) l []
  unfold dupI
  rw [this]
  exact ⟨fun h => h.2, fun h => ⟨fun a _ h => (by cases h), h⟩⟩
theorem eqS_iff : ∀ {a b : List Str}, eqS a b = true ↔ a = b
  | [], [] => ⟨fun _ => rfl, fun _ => rfl⟩
  | [], _ :: _ => ⟨fun h => (by cases h), fun h => (by cases h)⟩
  | _ :: _, [] => ⟨fun h => (by cases h), fun h => (by cases h)⟩
  | x :: a, y :: b => by
    show ((x == y) && eqS a b) = true ↔ _
    rw [Bool.and_eq_true, eqS_iff (a := a) (b := b), beq_iff_eq, List.cons.injEq]
theorem eqI_iff {a b : List I64} : eqI a b = true ↔ a = b := ⟨eqI_eq, fun h => by rw [h]; exact eqI_self b⟩
/-- Keys without repetitions, pairwise different. -/
def KeysN (l : List (Sl I64)) : Prop := (∀ k ∈ l, dupI k.items = false) ∧ KeysD l
theorem kdF_iff : ∀ (l seen : List (Sl Str)), kdF seen l = false ↔ (∀ k ∈ l, dupS k.items = false ∧ ∀ o ∈ seen, k.items ≠ o.items) ∧ l.Pairwise (fun a b => a.items ≠ b.items)
  | [], seen => ⟨fun _ => ⟨fun k hk => (by simp at hk), List.Pairwise.nil⟩, fun _ => rfl⟩
  | k :: r, seen => by
    rw [kdF, Bool.or_eq_false_iff, Bool.or_eq_false_iff, kdF_iff r]
    have h0 : (seen.any fun o => eqS k.items o.items) = false ↔ ∀ o ∈ seen, k.items ≠ o.items := by
      rw [← Bool.not_eq_true, List.any_eq_true]
      constructor
      · intro h o ho e; exact h ⟨o, ho, eqS_iff.2 e⟩
      · rintro h ⟨o, ho, e⟩; exact h o ho (eqS_iff.1 e)
    rw [h0, List.pairwise_cons]
    constructor
    · rintro ⟨⟨h1, h2⟩, h3, h4⟩
      refine ⟨fun q hq => ?_, fun q hq e => (h3 q hq).2 k (List.mem_append_right _ List.mem_cons_self) e.symm, h4⟩
      rcases List.mem_cons.1 hq with rfl | hq
      · exact ⟨h1, h2⟩
      · exact ⟨(h3 q hq).1, fun o ho => (h3 q hq).2 o (List.mem_append_left _ ho)⟩
    · rintro ⟨h1, h2, h3⟩
      refine ⟨h1 k List.mem_cons_self, fun q hq => ⟨(h1 q (List.mem_cons_of_mem _ hq)).1, fun o ho => ?_⟩, h3⟩
      rcases List.mem_append.1 ho with ho | ho
      · exact (h1 q (List.mem_cons_of_mem _ hq)).2 o ho
      · rw [List.mem_singleton.1 ho]; exact fun e => h2 q hq e.symm
theorem keysV_iff {cols : List Col} : ∀ (l seen : List (Sl I64)), keysV cols seen l = true ↔ (∀ k ∈ l, cofB cols k.items = true ∧ ∀ o ∈ seen, k.items ≠ o.items) ∧ KeysD l
  | [], seen => ⟨fun _ => ⟨fun k hk => (by simp at hk), List.Pairwise.nil⟩, fun _ => rfl⟩
  | k :: r, seen => by
    rw [keysV, Bool.and_eq_true, Bool.and_eq_true, keysV_iff r, Bool.not_eq_true']
    have h0 : (seen.any fun o => eqI k.items o.items) = false ↔ ∀ o ∈ seen, k.items ≠ o.items := by
      rw [← Bool.not_eq_true, List.any_eq_true]
      constructor
      · intro h o ho e; exact h ⟨o, ho, eqI_iff.2 e⟩
      · rintro h ⟨o, ho, e⟩; exact h o ho (eqI_iff.1 e)
    unfold KeysD
    rw [h0, List.pairwise_cons]
    constructor
    · rintro ⟨⟨h1, h2⟩, h3, h4⟩
      refine ⟨fun q hq => ?_, fun q hq e => (h3 q hq).2 k (List.mem_append_right _ List.mem_cons_self) e.symm, h4⟩
      rcases List.mem_cons.1 hq with rfl | hq
      · exact ⟨h1, h2⟩
      · exact ⟨(h3 q hq).1, fun o ho => (h3 q hq).2 o (List.mem_append_left _ ho)⟩
    · rintro ⟨h1, h2, h3⟩
      refine ⟨h1 k List.mem_cons_self, fun q hq => ⟨(h1 q (List.mem_cons_of_mem _ hq)).1, fun o ho => ?_⟩, h3⟩
      rcases List.mem_append.1 ho with ho | ho
      · exact (h1 q (List.mem_cons_of_mem _ hq)).2 o ho
      · rw [List.mem_singleton.1 ho]; exact fun e => h2 q hq e.symm
theorem cof_iff {cols : List Col} {l : List I64} (h : l.all (inB cols.length) = true) : cofB cols l = true ↔ l ≠ [] ∧ dupI l = false := by
  unfold cofB
  rw [h, Bool.and_true, Bool.and_eq_true, Bool.not_eq_true', decide_eq_true_eq]
  refine and_congr ⟨fun h e => by rw [e] at h; simp at h, fun h => ?_⟩ Iff.rfl
  cases l with
  | nil => exact absurd rfl h
  | cons a r => simp only [List.length_cons]; omega
/-- The table as built, and as it was. -/
structure Alk (t' t : Tbl) : Prop where
  name : t'.name = t.name
  cols : t'.cols = t.cols
  keys : t'.keys.items.map Sl.items = t.keys.items.map Sl.items
  fgns : AlikeL AlikeF t'.fgns.items t.fgns.items
  checks : t'.checks = t.checks
end Go.Eng
/- One step of the reference's Build, on a definition. -/
namespace Go.Eng
open Go Go.Proofs
theorem fnd_append {α : Type} (p : α → Bool) : ∀ (a b : List α) (i : Nat), fnd p i (a ++ b) = match fnd p i a with | some j => some j | none => fnd p (i + a.length) b
  | [], b, i => rfl
  | x :: a, b, i => by
    rw [List.cons_append, fnd, fnd]
    cases p x with
    | true => rfl
    | false =>
      simp only
      rw [fnd_append p a b (i + 1), List.length_cons, show i + 1 + a.length = i + (a.length + 1) by omega]
/-- The types of a foreign key's columns. -/
def typV (s : List Tbl) (t : Tbl) (f : Fgn) : Bool := match atI s f.table.1 with
  | some u => (match atI u.keys.items f.key.1 with
    | some z => typF u.cols.items t.cols.items z.items f.cols.items
    | none => false)
  | none => false
theorem validB_iff {s : List Tbl} {n : Nat} {t : Tbl} : validB s n t = true ↔ (nameB t.name = true ∧ 1 ≤ t.cols.items.length ∧ t.cols.items.length ≤ 8 ∧ t.keys.items.length ≤ 4 ∧ t.fgns.items.length ≤ 4 ∧ t.checks.items.length ≤ 4) ∧ fnd (fun u : Tbl => u.name == t.name) 0 s = some n ∧ t.cols.items.all colB = true ∧ (t.cols.items.map (·.name)).Nodup ∧ keysV t.cols.items [] t.keys.items = true ∧ t.fgns.items.all (fgV s n t) = true := by
  unfold validB headV
  simp only [Bool.and_eq_true, decide_eq_true_eq, Bool.not_eq_true', dupS_iff]
end Go.Eng
/- A schema is valid exactly if it is built out of its definitions. -/
namespace Go.Eng
open Go Go.Proofs
end Go.Eng
/- Validity does not look at checks. -/
namespace Go.Eng
open Go Go.Proofs
theorem fgV_re (s : List Tbl) (n : Nat) (t : Tbl) (f : Fgn) : fgV (s.map reT) n (reT t) f = fgV s n t f := by
  unfold fgV
  have : atI (s.map reT) f.table.1 = (atI s f.table.1).map reT := by cases f.table.1 <;> simp [atI]
  rw [this]
  cases atI s f.table.1 with
  | none => rfl
  | some u => rfl
theorem validB_re (s : List Tbl) (n : Nat) (t : Tbl) : validB (s.map reT) n (reT t) = validB s n t := by
  unfold validB headV
  have h1 : fnd (fun u : Tbl => u.name == (reT t).name) 0 (s.map reT) = fnd (fun u : Tbl => u.name == t.name) 0 s := by
    exact (fnd_map reT (fun u : Tbl => u.name == t.name) s 0).symm
  rw [h1]
  have h2 : (reT t).checks.items.length = t.checks.items.length := by
    show (cn t.checks.items).items.length = _
    rw [cn_items t.checks.lt]
  rw [h2]
  have h3 : (reT t).fgns.items.all (fgV (s.map reT) n (reT t)) = t.fgns.items.all (fgV s n t) := by
    show t.fgns.items.all _ = _
    rw [show fgV (s.map reT) n (reT t) = fgV s n t from funext fun f => fgV_re s n t f]
  rw [h3]; rfl
theorem valL_of {s : List Tbl} : ∀ (l : List Tbl) (k : Nat), (∀ (i : Nat) (u : Tbl), l[i]? = some u → validB s (k + i) u = true) → valL s k l = true
  | [], _, _ => rfl
  | t :: l, k, h => by
    rw [valL, show validB s k t = true from h 0 t rfl, Bool.true_and]
    exact valL_of l (k + 1) fun i u hu => by have := h (i + 1) u (by simpa using hu); rwa [show k + 1 + i = k + (i + 1) by omega]
end Go.Eng
